/- The texts of the walk, part 4. -/
import Derived.Test.YtpmmgljndceplaaGreatJ3
namespace Go.Proofs.YtpmmgljndceplaaGreat
open Go Go.RowKit

abbrev keyS (s : Spo) : List Fl := [.i s.won.1, .i s.won.2, .i s.games.1, .i s.games.2, .i s.num, .i s.t0, .i s.t1]
abbrev sh7 : List Bool := [false, false, false, false, false, false, false]
theorem keyS_inj {s t : Spo} (h : keyS s = keyS t) : s = t := by
 obtain ⟨⟨a1, a2⟩, ⟨a3, a4⟩, a5, a6, a7⟩ := s
 obtain ⟨⟨b1, b2⟩, ⟨b3, b4⟩, b5, b6, b7⟩ := t
 simp only [keyS, List.cons.injEq, Fl.i.injEq, and_true] at h
 obtain ⟨rfl, rfl, rfl, rfl, rfl, rfl, rfl⟩ := h
 rfl
def GoodM (f : Fmt) (kv : List (List Fl × Value)) : Prop := (∀ p ∈ kv, shapeOf p.1 = sh7) ∧ ∀ (s : Spo) v, lkp kv (keyS s) = some v → v = cv (fromP f s.won s.games s.num s.t1)
theorem good_nil (f : Fmt) : GoodM f [] := ⟨fun p hp => (by cases hp), fun s v h => by cases h⟩
theorem good_upd {f : Fmt} {kv : List (List Fl × Value)} (h : GoodM f kv) (s : Spo) : GoodM f (updM kv (keyS s) (cv (fromP f s.won s.games s.num s.t1))) := by
 refine ⟨updM_shape h.1 rfl, fun t v ht => ?_⟩
 rw [lkp_upd] at ht
 by_cases e : keyS t = keyS s
 ·
  rw [if_pos e] at ht
  rw [keyS_inj e, ← Option.some.inj ht]
 ·
  rw [if_neg e] at ht
  exact h.2 t v ht
theorem look_good {f : Fmt} {kv : List (List Fl × Value)} (h : GoodM f kv) (s : Spo) : ∃ (c : Cs) (k : Bool), (lkp kv (keyS s)).getD (.agg #[.int .i64 0, .int .i64 0, .int .i64 0, .int .i64 0]) = cv c ∧ (lkp kv (keyS s)).isSome = k ∧ (k = true → c = fromP f s.won s.games s.num s.t1) := by
 cases e : lkp kv (keyS s) with
 | none => exact ⟨zC, false, rfl, rfl, fun h => by cases h⟩
 | some v => exact ⟨fromP f s.won s.games s.num s.t1, true, h.2 s v e, rfl, fun _ => rfl⟩
theorem C_rest_after (f : Fmt) (bm : Nat) (s : Spo) (side : Int) (hs : side = 0 ∨ side = 1) (hf : f.Ok) (ht : s.t0 = tieN f s.won s.games) (hw : (0 ≤ s.won.1 ∧ s.won.1 ≤ 3) ∧ 0 ≤ s.won.2 ∧ s.won.2 ≤ 3) (hg : (0 ≤ s.games.1 ∧ s.games.1 ≤ 1000) ∧ 0 ≤ s.games.2 ∧ s.games.2 ≤ 1000) (hn : 0 ≤ s.num ∧ s.num ≤ 1000) (w : World) : C0 Tryz.prog 114 [restv f bm, s.val, .int .i64 side] w (.tuple #[(afterS f s side).val, .bool (!endS f s.won s.games side), .bool (overS f s.won s.games side)]) := by
 rcases hs with rfl | rfl
 ·
  exact C_rest_after0 f bm s hf ht hw hg hn w
 ·
  exact C_rest_after1 f bm s hf ht hw hg hn w
theorem chg_is (f : Fmt) (n t1 : Int) (won g : Pr) : (decide (tieN f won g = 0) && dueV f (n + 1) || decide (t1 = 1) && dueV f (n + 1 - 2)) = chgV f n t1 won g := by
 have h0 : decide (tieN f won g = 0) = !brksV (setV f won) g := by
  rw [tieN]; cases brksV (setV f won) g <;> rfl
 rw [chgV, h0, Bool.and_comm (!brksV (setV f won) g), show n + 1 - 2 = n - 1 by omega]
def outV (c0 c1 : Cs) : Nat → Cs
 | 0 => zC
 | 1 => c0
 | _ => orV c1 c0
structure BX where
 (es : Array MapEntry) (c : Nat) (kv : List (List Fl × Value))
structure BL where
 (k : Nat) (es : Array MapEntry) (c : Nat) (kv : List (List Fl × Value))
def FromB (f : Fmt) (k : Nat) : Prop := ∀ (s : Spo) (kv : List (List Fl × Value)) (es : Array MapEntry) (c b : Nat), Vs f s.won s.games → s.t0 = tieN f s.won s.games → remV f s.won s.games < k → (0 ≤ s.num ∧ s.num + remV f s.won s.games ≤ 1000) → MapIs es kv → GoodM f kv →
 Tr Tryz.prog 72 [restv f b, s.val] [.obj b (.map es c)] (fun x : BX => MapIs x.es x.kv ∧ GoodM f x.kv) (fun _ => cv (fromP f s.won s.games s.num s.t1)) (fun x => [.obj b (.map x.es x.c)])
set_option maxRecDepth 100000 in
set_option maxHeartbeats 4000000 in
theorem fromB_step (f : Fmt) (hf : f.Ok) (hb : Bdd f) (k : Nat) (ih : FromB f k) : FromB f (k + 1) := by
 intro s kv es c b hV hT hk hN hm hgd
 refine ⟨fun w0 w R hst => ?_⟩
 obtain ⟨c0, k0, hl1, hl2, hl3⟩ := look_good hgd s
 have hrp := rem_pos hf hb hV
 have hw0 := hV.1
 have hs1 := hf.s1
 have hg1 := hf.g1
 have hop := open_sum (tie_ok hf s.won) (bdd_set hb hV.1) hV.2
 have hgb : (0 ≤ s.games.1 ∧ s.games.1 ≤ 1000) ∧ 0 ≤ s.games.2 ∧ s.games.2 ≤ 1000 := by have := hV.2; unfold OpenP at this; omega
 have hfe := from_eq (n := s.num) (t1 := s.t1) hf hb hV
 refine en Tryz.func72 Tryz.ntmps72 hst (h := fun F => ?_)
 refine sr ?_
 refine bxA (h := fun b0 => ?_)
 refine bxA (h := fun b1 => ?_)
 refine al (h := fun b2 => ?_)
 refine nq ?_
 refine sq ?_
 refine sr ?_
 iterate 3 refine ww ?_
 refine wy (lkC (kv := kv) (k := keyS s) (hm := hm) (hs := hgd.1)) ?_
 rw [hl1, hl2]
 iterate 3 refine ww ?_
 refine al (h := fun b3 => ?_)
 first | refine stA (h := ?_) | refine stEA (h := ?_)
 refine ww ?_
 refine nr ?_
 refine ww ?_
 refine nq ?_
 refine czz (fun h0 => ?_) fun h0 => ?_
 ·
  have hc0 := hl3 h0
  refine sr ?_
  refine ww ?_
  first | refine stA (h := ?_) | refine stEA (h := ?_)
  refine nq ?_
  refine rtn ?_
  refine q_then_ret ?_
  refine q_ret (hR := ?_)
  rw [← hc0]
  exact fun w hS => ⟨⟨es, c, kv⟩, ⟨hm, hgd⟩, rfl, hS.sub slz_⟩
 ·
  refine skp ?_
  refine q_seq ?_
  refine sr ?_
  refine al (h := fun b4 => ?_)
  refine nq ?_
  refine sq ?_
  refine sr ?_
  refine ww ?_
  refine nq ?_
  refine bk ?_
  refine lp (X := BL) (I := fun z => z.k ≤ 2 ∧ MapIs z.es z.kv ∧ GoodM f z.kv) (le := fun z => [(2, .pointer (some ⟨b0, 0, none⟩)), (3, .pointer (some ⟨b1, 0, none⟩)), (4, .pointer (some ⟨b2, 0, none⟩)), (7, .pointer (some ⟨b4, 0, none⟩)), (22, .int .i64 z.k)]) (Le := fun z => .obj b (.map z.es z.c) :: .blk b4 125 (ccs (outV (courV (fromP f) f s.won s.games s.num s.t1 0) (courV (fromP f) f s.won s.games s.num s.t1 1) z.k)) :: .blk b0 153 (restc f b) :: .blk b1 156 s.cells :: .blk b2 125 [.int .i64 0, .int .i64 0, .int .i64 0, .int .i64 0] :: R) (μ := fun z => 2 - z.k) ⟨0, es, c, kv⟩ ⟨Nat.zero_le _, hm, hgd⟩ sbz_ slz_ (fun z hz => ?_)
  obtain ⟨hzk, hzm, hzg⟩ := hz
  refine sr ?_
  refine ww ?_
  refine nq ?_
  refine sq ?_
  refine czz (fun h1 => ?_) fun h1 => ?_
  ·
   obtain ⟨z, es1, c1, kv1⟩ := z
   dsimp only at *
   have hkn : z < 2 := by simp only [decide_eq_true_eq] at h1; omega
   have hks : (z : Int) = 0 ∨ (z : Int) = 1 := by omega
   have han : (afterS f s z).num = s.num + 1 := rfl
   refine skp ?_
   refine q_seq ?_
   refine sq ?_
   refine bk ?_
   refine sr ?_
   iterate 2 refine ww ?_
   refine nr ?_
   iterate 3 refine ww ?_
   refine cl0 (hc := fun w hS => C_rest_after f b s z hks hf hT (by omega) hgb (by omega) w) (h := ?_)
   iterate 4 refine ww ?_
   refine al (h := fun b5 => ?_)
   first | refine stA (h := ?_) | refine stEA (h := ?_)
   iterate 2 refine ww ?_
   refine nr ?_
   refine al (h := fun b6 => ?_)
   refine nq ?_
   refine ct (X := BX) (fun x => MapIs x.es x.kv ∧ GoodM f x.kv) (fun _ => [(2, .pointer (some ⟨b0, 0, none⟩)), (3, .pointer (some ⟨b1, 0, none⟩)), (4, .pointer (some ⟨b2, 0, none⟩)), (7, .pointer (some ⟨b4, 0, none⟩)), (8, .int .i64 z), (9, .pointer (some ⟨b5, 0, none⟩)), (10, .bool (!endS f s.won s.games z)), (11, .bool (overS f s.won s.games z)), (12, .pointer (some ⟨b6, 0, none⟩)), (22, .int .i64 z)]) (fun x => .blk b6 125 (ccs (courV (fromP f) f s.won s.games s.num s.t1 z)) :: .obj b (.map x.es x.c) :: .blk b5 156 (afterS f s z).cells :: .blk b4 125 (ccs (outV (courV (fromP f) f s.won s.games s.num s.t1 0) (courV (fromP f) f s.won s.games s.num s.t1 1) z)) :: .blk b0 153 (restc f b) :: .blk b1 156 s.cells :: .blk b2 125 [.int .i64 0, .int .i64 0, .int .i64 0, .int .i64 0] :: R) (h1 := ?_) (h2 := ?_)
   ·
    refine sr ?_
    iterate 2 refine ww ?_
    refine nq ?_
    refine czz (fun h2 => ?_) fun h2 => ?_
    ·
     have hov : overS f s.won s.games z = false := by rw [Bool.not_eq_true'] at h2; exact h2
     obtain ⟨hv1, hr1⟩ := step_ok' hf hb hks hV hov
     have hrp1 := rem_pos hf hb hv1
     have hih := ih (afterS f s z) kv1 es1 c1 b hv1 rfl (by show remV f (wonS f s.won s.games z) (gamS f s.won s.games z) < k; omega) ⟨by show 0 ≤ s.num + 1; omega, by show s.num + 1 + remV f (wonS f s.won s.games z) (gamS f s.won s.games z) ≤ 1000; omega⟩ hzm hzg
     obtain ⟨r, hr⟩ : ∃ r, r = fromP f (wonS f s.won s.games z) (gamS f s.won s.games z) (s.num + 1) s.t0 := ⟨_, rfl⟩
     have hrb := csb_P (n := s.num + 1) (t1 := s.t0) hf hv1
     rw [← hr] at hrb
     unfold CsB at hrb
     have hcr : courV (fromP f) f s.won s.games s.num s.t1 z = bumpC r (chgV f s.num s.t1 (wonS f s.won s.games z) (gamS f s.won s.games z)) (endS f s.won s.games z) := by rw [courV, hov, cond_false, ← hT, ← hr]
     refine sr ?_
     iterate 2 refine ww ?_
     refine clT (hc := hih) (h := fun x hx => ?_)
     rw [show fromP f (afterS f s z).won (afterS f s z).games (afterS f s z).num (afterS f s z).t1 = r from hr.symm]
     obtain ⟨hx1, hx2⟩ := hx
     first | refine stA (h := ?_) | refine stEA (h := ?_)
     refine nq ?_
     refine ct (X := Unit) (fun _ => True) (fun _ => [(2, .pointer (some ⟨b0, 0, none⟩)), (3, .pointer (some ⟨b1, 0, none⟩)), (4, .pointer (some ⟨b2, 0, none⟩)), (7, .pointer (some ⟨b4, 0, none⟩)), (8, .int .i64 z), (9, .pointer (some ⟨b5, 0, none⟩)), (10, .bool (!endS f s.won s.games z)), (11, .bool (overS f s.won s.games z)), (12, .pointer (some ⟨b6, 0, none⟩)), (22, .int .i64 z)]) (fun _ => .blk b6 125 [.int .i64 (r.1.1 + bz (chgV f s.num s.t1 (wonS f s.won s.games z) (gamS f s.won s.games z))), .int .i64 (r.1.2 + bz (chgV f s.num s.t1 (wonS f s.won s.games z) (gamS f s.won s.games z))), .int .i64 r.2.1, .int .i64 r.2.2] :: .obj b (.map x.es x.c) :: .blk b5 156 (afterS f s z).cells :: .blk b4 125 (ccs (outV (courV (fromP f) f s.won s.games s.num s.t1 0) (courV (fromP f) f s.won s.games s.num s.t1 1) z)) :: .blk b0 153 (restc f b) :: .blk b1 156 s.cells :: .blk b2 125 [.int .i64 0, .int .i64 0, .int .i64 0, .int .i64 0] :: R) (h1 := ?_) (h2 := ?_)
     ·
      refine sr ?_
      refine ww ?_
      refine wy ixA ?_
      iterate 3 refine ww ?_
      apply brAnd 5 42 47 (by exact rfl)
      ·
       intro hb3
       iterate 3 refine uw ?_
       refine uz ?_
       refine cl0 (hc := fun w hS => C_rest_due f b (s.num + 1) hf (by omega) w) (h := ?_)
       refine ww ?_
       exact mg (by repeat (first | exact trivial | refine ⟨rfl, ?_⟩ | refine ⟨by rw [hb3]; rfl, ?_⟩)) slz_
      ·
       intro hb3
       repeat (first | refine uz ?_ | refine kz ?_ | refine wz ?_)
       exact mg (by repeat (first | exact trivial | refine ⟨rfl, ?_⟩ | refine ⟨by rw [hb3]; rfl, ?_⟩)) slz_
      refine ww ?_
      apply brOr 12 48 60 (by exact rfl)
      ·
       intro hb4
       refine uw ?_
       refine uz ?_
       refine wy ixA ?_
       iterate 3 refine uw ?_
       apply brAnd 6 53 59 (by exact rfl)
       ·
        intro hb5
        iterate 4 refine uw ?_
        refine uz ?_
        refine cl0 (hc := fun w hS => C_rest_due f b (s.num + 1 - 2) hf (by omega) w) (h := ?_)
        refine uw ?_
        exact mg (by repeat (first | exact trivial | refine ⟨rfl, ?_⟩ | refine ⟨by rw [hb5]; rfl, ?_⟩ | refine ⟨by rw [hb4]; rfl, ?_⟩)) slz_
       ·
        intro hb5
        repeat (first | refine uz ?_ | refine kz ?_ | refine wz ?_)
        exact mg (by repeat (first | exact trivial | refine ⟨rfl, ?_⟩ | refine ⟨by rw [hb5]; rfl, ?_⟩ | refine ⟨by rw [hb4]; rfl, ?_⟩)) slz_
       refine ww ?_
       exact mg (by repeat (first | exact trivial | refine ⟨rfl, ?_⟩ | refine ⟨by rw [hb4]; rfl, ?_⟩)) slz_
      ·
       intro hb4
       repeat (first | refine uz ?_ | refine kz ?_ | refine wz ?_)
       exact mg (by repeat (first | exact trivial | refine ⟨rfl, ?_⟩ | refine ⟨by rw [hb4]; rfl, ?_⟩)) slz_
      refine nq ?_
      refine czz (fun h6 => ?_) fun h6 => ?_
      ·
       have hch : chgV f s.num s.t1 (wonS f s.won s.games z) (gamS f s.won s.games z) = true := (chg_is ..).symm.trans h6
       refine rg ?_
       iterate 10 refine ww ?_
       first | refine stA (h := ?_) | refine stEA (h := ?_)
       refine nl ?_
       first | (rw [hch, show bz true = 1 from rfl]; exact ctn () trivial sbz_ slz_) | (rw [hch, show bz false = 0 from rfl, Int.add_zero, Int.add_zero]; exact ctn () trivial sbz_ slz_)
      ·
       have hch : chgV f s.num s.t1 (wonS f s.won s.games z) (gamS f s.won s.games z) = false := (chg_is ..).symm.trans h6
       refine skp ?_
       first | (rw [hch, show bz true = 1 from rfl]; exact ctn () trivial sbz_ slz_) | (rw [hch, show bz false = 0 from rfl, Int.add_zero, Int.add_zero]; exact ctn () trivial sbz_ slz_)
     rintro ⟨⟩ -
     have hb1 := bz_rng (chgV f s.num s.t1 (wonS f s.won s.games z) (gamS f s.won s.games z))
     refine sr ?_
     iterate 2 refine ww ?_
     refine nq ?_
     refine czz (fun h7 => ?_) fun h7 => ?_
     ·
      have hen : endS f s.won s.games z = true := by rw [Bool.not_not] at h7; exact h7
      refine rg ?_
      iterate 10 refine ww ?_
      first | refine stA (h := ?_) | refine stEA (h := ?_)
      refine nl ?_
      first
       | (rw [hcr, hen, bumpC, show bz false = 0 from rfl, Int.add_zero, Int.add_zero]; exact ctn x ⟨hx1, hx2⟩ sbz_ slz_)
       | (rw [hcr, hen]; exact ctn x ⟨hx1, hx2⟩ sbz_ slz_)
       | (rw [hcr]; exact ctn ⟨es1, c1, kv1⟩ ⟨hzm, hzg⟩ sbz_ slz_)
     ·
      have hen : endS f s.won s.games z = false := by rw [Bool.not_not] at h7; exact h7
      refine skp ?_
      first
       | (rw [hcr, hen, bumpC, show bz false = 0 from rfl, Int.add_zero, Int.add_zero]; exact ctn x ⟨hx1, hx2⟩ sbz_ slz_)
       | (rw [hcr, hen]; exact ctn x ⟨hx1, hx2⟩ sbz_ slz_)
       | (rw [hcr]; exact ctn ⟨es1, c1, kv1⟩ ⟨hzm, hzg⟩ sbz_ slz_)
    ·
     have hov : overS f s.won s.games z = true := by rw [Bool.not_eq_false'] at h2; exact h2
     have hcr : courV (fromP f) f s.won s.games s.num s.t1 z = zC := by rw [courV, hov, cond_true]
     refine skp ?_
     first
      | (rw [hcr, hen, bumpC, show bz false = 0 from rfl, Int.add_zero, Int.add_zero]; exact ctn x ⟨hx1, hx2⟩ sbz_ slz_)
      | (rw [hcr, hen]; exact ctn x ⟨hx1, hx2⟩ sbz_ slz_)
      | (rw [hcr]; exact ctn ⟨es1, c1, kv1⟩ ⟨hzm, hzg⟩ sbz_ slz_)
   rintro x ⟨hx1, hx2⟩
   refine ct (X := Unit) (fun _ => True) (fun _ => [(2, .pointer (some ⟨b0, 0, none⟩)), (3, .pointer (some ⟨b1, 0, none⟩)), (4, .pointer (some ⟨b2, 0, none⟩)), (7, .pointer (some ⟨b4, 0, none⟩)), (8, .int .i64 z), (9, .pointer (some ⟨b5, 0, none⟩)), (10, .bool (!endS f s.won s.games z)), (11, .bool (overS f s.won s.games z)), (12, .pointer (some ⟨b6, 0, none⟩)), (22, .int .i64 z)]) (fun _ => .blk b6 125 (ccs (outV (courV (fromP f) f s.won s.games s.num s.t1 0) (courV (fromP f) f s.won s.games s.num s.t1 1) (z + 1))) :: .obj b (.map x.es x.c) :: .blk b5 156 (afterS f s z).cells :: .blk b4 125 (ccs (outV (courV (fromP f) f s.won s.games s.num s.t1 0) (courV (fromP f) f s.won s.games s.num s.t1 1) z)) :: .blk b0 153 (restc f b) :: .blk b1 156 s.cells :: .blk b2 125 [.int .i64 0, .int .i64 0, .int .i64 0, .int .i64 0] :: R) (h1 := ?_) (h2 := ?_)
   ·
    refine sr ?_
    iterate 2 refine ww ?_
    refine nq ?_
    refine czz (fun h8 => ?_) fun h8 => ?_
    ·
     obtain rfl : z = 1 := by have := of_decide_eq_true h8; omega
     refine rg ?_
     iterate 2 refine ww ?_
     refine cl0 (hc := fun w hS => C_bound_or (courV (fromP f) f s.won s.games s.num s.t1 ((1 : Nat) : Int)) (outV (courV (fromP f) f s.won s.games s.num s.t1 0) (courV (fromP f) f s.won s.games s.num s.t1 1) 1) w) (h := ?_)
     first | refine stA (h := ?_) | refine stEA (h := ?_)
     refine nl ?_
     exact ctn () trivial sbz_ slz_
    ·
     obtain rfl : z = 0 := by have := of_decide_eq_false h8; omega
     refine skp ?_
     exact ctn () trivial sbz_ slz_
   rintro ⟨⟩ -
   refine rg ?_
   refine ww ?_
   first | refine stA (h := ?_) | refine stEA (h := ?_)
   refine nl ?_
   refine q_blk_norm ?_
   refine q_seq ?_
   refine rg ?_
   iterate 2 refine ww ?_
   refine nl ?_
   refine rn (X := BL) (x := ⟨z, es1, c1, kv1⟩) ⟨z + 1, x.es, x.c, x.kv⟩ ⟨by dsimp only; omega, hx1, hx2⟩ (by dsimp only; omega) sbz_ slz_
  ·
   have hkn : z.k = 2 := by simp only [decide_eq_false_iff_not] at h1; omega
   rw [hkn]
   refine et ?_
   iterate 2 refine q_then_exit ?_
   refine q_blk_hit ?_
   refine q_seq ?_
   refine sr ?_
   iterate 4 refine ww ?_
   refine mup (kv := z.kv) (k := keyS s) (hm := hzm) (hs := hzg.1) (h := fun es9 c9 hm9 => ?_)
   refine nr ?_
   refine ww ?_
   first | refine stA (h := ?_) | refine stEA (h := ?_)
   refine nq ?_
   refine rtn ?_
   refine q_ret (hR := ?_)
   rw [hfe, or_comm]
   exact fun w hS => ⟨⟨es9, c9, _⟩, ⟨hm9, by have h9 := good_upd hzg s; rw [hfe, or_comm] at h9; exact h9⟩, rfl, hS.sub slz_⟩
theorem fromB_all (f : Fmt) (hf : f.Ok) (hb : Bdd f) : ∀ k, FromB f k
 | 0 => fun s kv es c b hV hT hk hN hm hgd => by have := rem_pos hf hb hV; omega
 | k + 1 => fromB_step f hf hb k (fromB_all f hf hb k)
end Go.Proofs.YtpmmgljndceplaaGreat

namespace Go.Proofs.YtpmmgljndceplaaGreat
open Go Go.RowKit

def tlB (p : Pr) : Bool := decide (p.1 - p.2 = 1) || decide (p.2 - p.1 = 1)
def tlV (p : Pr) : Int := bif tlB p then 1 else 0
def numTo (l : List Pr) : Nat → Nat
 | 0 => 0
 | k + 1 => match l[k]? with
  | some p => numTo l k + (p.1 + p.2).toNat
  | none => numTo l k
def tailE (l : List Pr) : Nat → List Int
 | 0 => []
 | k + 1 => match l[k]? with
  | some p => [tlV p]
  | none => []
theorem numTo_succ {l : List Pr} {k : Nat} {p : Pr} (h : l[k]? = some p) : numTo l (k + 1) = numTo l k + (p.1 + p.2).toNat := by rw [numTo, h]
theorem tailE_succ {l : List Pr} {k : Nat} {p : Pr} (h : l[k]? = some p) : tailE l (k + 1) = [tlV p] := by rw [tailE, h]
def numV (b : Brd) : Int := numTo b.st b.st.length + (b.g.1 + b.g.2)
def t1V (b : Brd) : Int := bif decide (0 < b.g.1 + b.g.2) then 0 else (tailE b.st b.st.length).getD 0 0
def restC (f : Fmt) (b : Brd) : Cs := bif overV f (wonV b.st) then zC else bumpC (fromP f (wonV b.st) b.g (numV b) (t1V b)) false (isZ b.g && isZ b.p)
theorem sets_over {f : Fmt} {b : Brd} (hf : f.Ok) (hb : brdOk b = true) (h : (arisesV f b).2 = true) {k : Nat} {p : Pr} (hp : b.st[k]? = some p) : expT f (setV f (wonTo b.st k)) p.1 p.2 = some true ∧ overV f (wonTo b.st k) = false := by
 have hok := arises_ok (tb := tableV f) h
 have hk : k < b.st.length := (List.getElem?_eq_some_iff.1 hp).1
 have ho : ∀ j, j ≤ b.st.length → (setsTo (tableV f) f b.st j).ok = true := fun j hj => by
  cases e : (setsTo (tableV f) f b.st j).ok
  ·
   rw [setsTo_stop e hj, e] at hok; cases hok
  ·
   rfl
 have hpf := brd_fit hb p (by simp only [Brd.all]; exact List.mem_append_left _ (List.mem_of_getElem? hp))
 have hw := sets_won (tbOk_table f) hf hb hok k (by omega)
 have h1 := (step_is (tbOk_table f) hf hp (by omega) (ho k (by omega)) hw).1
 rw [ho (k + 1) (by omega)] at h1
 have h2 := h1.symm
 rw [Bool.and_eq_true, Bool.not_eq_true', decide_eq_true_eq] at h2
 exact ⟨h2.2, h2.1⟩
theorem over_sum {f : Fmt} {s : Pr} {a b : Int} (h : expT f s a b = some true) : 1 ≤ a + b := by
 unfold expT at h
 by_cases h0 : a = 0 ∧ b = 0
 ·
  rw [if_pos h0] at h; cases h
 ·
  rw [if_neg h0] at h
  by_cases h1 : OpenP f s (a - 1) b
  ·
   unfold OpenP at h1; omega
  ·
   rw [if_neg h1] at h
   by_cases h2 : OpenP f s a (b - 1)
   ·
    unfold OpenP at h2; omega
   ·
    rw [if_neg h2] at h; cases h
theorem numTo_bd {b : Brd} (hb : brdOk b = true) : ∀ k, k ≤ b.st.length → numTo b.st k ≤ 80 * k
 | 0, _ => Nat.zero_le _
 | k + 1, hk => by
  have ih := numTo_bd hb k (by omega)
  have hp : b.st[k]? = some b.st[k] := List.getElem?_eq_getElem (by omega)
  have hpf := brd_fit hb b.st[k] (by simp only [Brd.all]; exact List.mem_append_left _ (List.getElem_mem _))
  rw [numTo_succ hp]; omega
theorem encI_app' (xs : List Int) (x : Int) : encI (xs ++ [x]) = encI xs ++ [[.int .i64 x]] := by simp [encI]
theorem encI_rep' (xs : List Int) (j : Nat) : encI (xs ++ List.replicate (j + 1) 0) = encI (xs ++ List.replicate j 0) ++ [[.int .i64 0]] := by
 rw [List.replicate_succ', ← List.append_assoc, encI_app']
structure OZ where
 (k : Nat) (A : Option Addr) (c : Nat) (es : List Int)
structure OJ where
 (j : Nat) (A : Option Addr) (c : Nat)
theorem won_bd5 {b : Brd} (hb : brdOk b = true) (k : Nat) (hk : k ≤ b.st.length) : (0 ≤ (wonTo b.st k).1 ∧ (wonTo b.st k).1 ≤ 5) ∧ 0 ≤ (wonTo b.st k).2 ∧ (wonTo b.st k).2 ≤ 5 := by
 have h1 := wonTo_bd b.st k
 have h2 := brd_len hb
 omega
set_option maxRecDepth 100000 in
set_option maxHeartbeats 4000000 in
theorem C_balls_open (f : Fmt) (b : Brd) (hf : f.Ok) (hbd : Bdd f) (hb : brdOk b = true) (hari : (arisesV f b).2 = true) (A : Option Addr) (n c : Nat) (w : World) (h : Rd w A 2 n (encP b.st)) : C0 Tryz.prog 47 [f.val, b.val A n c] w (.tuple #[cv (restC f b), .bool (overV f (wonV b.st))]) := by
 have hlen : b.st.length = n := by have := h.len; simpa [encP] using this
 have hbl := brd_len hb
 have hbp := brd_fit hb b.p (by simp [Brd.all])
 have hbg := brd_fit hb b.g (by simp [Brd.all])
 have hs1 := hf.s1
 obtain ⟨-, hwo, hw3⟩ := arises_facts hf hb hari
 refine ⟨en Tryz.func47 Tryz.ntmps47 ((St.init w).share (e := .ro A 2 n (encP b.st)) h rfl rfl rfl) (h := fun F => ?_)⟩
 refine sr ?_
 refine bxA (h := fun b0 => ?_)
 refine bxA (h := fun b1 => ?_)
 refine al (h := fun b2 => ?_)
 refine ww ?_
 refine nr ?_
 refine ww ?_
 refine mkm (h := fun b3 => ?_)
 refine ww ?_
 refine al (h := fun b4 => ?_)
 first | refine stA (h := ?_) | refine stEA (h := ?_)
 refine nr ?_
 refine al (h := fun b5 => ?_)
 refine nr ?_
 refine ww ?_
 refine nq ?_
 iterate 2 refine sq ?_
 refine WC.nilOwn 3 1 (h := ?_)
 refine rg ?_
 iterate 4 refine ww ?_
 refine nq ?_
 refine bk ?_
 refine lp (X := OZ) (I := fun z => z.k ≤ n ∧ z.es.length = numTo b.st z.k ∧ ∃ pre, z.es = pre ++ tailE b.st z.k) (le := fun z => [(2, .pointer (some ⟨b0, 0, none⟩)), (3, .pointer (some ⟨b1, 0, none⟩)), (4, .pointer (some ⟨b2, 0, none⟩)), (5, .bool false), (6, .pointer (some ⟨b4, 0, none⟩)), (7, .pointer (some ⟨b5, 0, none⟩)), (8, .slice z.A z.es.length z.c), (18, .slice A n c), (19, .int .i64 n), (20, .int .i64 z.k)]) (Le := fun z => [.own z.A z.c 3 1 z.es.length (encI z.es), .obj b3 (.map #[] 0), .blk b5 156 [.int .i64 (wonTo b.st z.k).1, .int .i64 (wonTo b.st z.k).2, .int .i64 0, .int .i64 0, .int .i64 0, .int .i64 0, .int .i64 0], .blk b4 153 (restc f b3), .blk b0 35 f.cells, .blk b1 40 (b.cells A n c), .blk b2 125 [.int .i64 0, .int .i64 0, .int .i64 0, .int .i64 0], .ro A 2 n (encP b.st)]) (μ := fun z => n - z.k) ⟨0, none, 0, []⟩ ⟨Nat.zero_le _, rfl, [], rfl⟩ sbz_ slz_ (fun z hz => ?_)
 obtain ⟨hzk, hze, hzt⟩ := hz
 refine sr ?_
 refine ww ?_
 refine nq ?_
 refine sq ?_
 refine czz (fun h0 => ?_) fun h0 => ?_
 ·
  obtain ⟨z, Az, cz, es⟩ := z
  dsimp only at *
  have hkn : z < n := by simp only [decide_eq_true_eq] at h0; omega
  obtain ⟨p, hp⟩ : ∃ p, b.st[z]? = some p := ⟨_, List.getElem?_eq_getElem (by omega)⟩
  have hpe := encP_at hp
  have hpf := brd_fit hb p (by simp only [Brd.all]; exact List.mem_append_left _ (List.mem_of_getElem? hp))
  obtain ⟨hov, hnv⟩ := sets_over hf hb hari hp
  have hps := over_sum hov
  have hnb := numTo_bd hb z (by omega)
  have hwb := won_bd5 hb z (by omega)
  have hw1 := wonTo_succ hp
  obtain ⟨N, hN⟩ : ∃ N : Nat, p.1 + p.2 = (N : Int) + 1 := ⟨(p.1 + p.2 - 1).toNat, by omega⟩
  have hn1 : numTo b.st (z + 1) = numTo b.st z + N + 1 := by rw [numTo_succ hp]; omega
  have hL9 : ((es ++ List.replicate N (0 : Int)) ++ [tlV p]).length = es.length + N + 1 := by simp only [List.length_append, List.length_replicate, List.length_cons, List.length_nil]
  refine skp ?_
  refine q_seq ?_
  refine sq ?_
  refine bk ?_
  refine sr ?_
  refine wy (ix (A := A) (m := n)) ?_
  refine wy (ldEW (A := A) (hk := hpe)) ?_
  refine al (h := fun b6 => ?_)
  first | refine stA (h := ?_) | refine stEA (h := ?_)
  refine nq ?_
  refine sq ?_
  refine sr ?_
  iterate 7 refine ww ?_
  refine nq ?_
  refine bk ?_
  refine lp (X := OJ) (I := fun u => u.j ≤ N) (le := fun u => [(2, .pointer (some ⟨b0, 0, none⟩)), (3, .pointer (some ⟨b1, 0, none⟩)), (4, .pointer (some ⟨b2, 0, none⟩)), (5, .bool false), (6, .pointer (some ⟨b4, 0, none⟩)), (7, .pointer (some ⟨b5, 0, none⟩)), (8, .slice u.A (es.length + u.j) u.c), (10, .pointer (some ⟨b6, 0, none⟩)), (18, .slice A n c), (19, .int .i64 n), (20, .int .i64 z), (29, .int .i64 (p.1 + p.2 - 1)), (30, .int .i64 u.j)]) (Le := fun u => [.own u.A u.c 3 1 (es.length + u.j) (encI (es ++ List.replicate u.j 0)), .blk b6 38 [.int .i64 p.1, .int .i64 p.2], .obj b3 (.map #[] 0), .blk b5 156 [.int .i64 (wonTo b.st z).1, .int .i64 (wonTo b.st z).2, .int .i64 0, .int .i64 0, .int .i64 0, .int .i64 0, .int .i64 0], .blk b4 153 (restc f b3), .blk b0 35 f.cells, .blk b1 40 (b.cells A n c), .blk b2 125 [.int .i64 0, .int .i64 0, .int .i64 0, .int .i64 0], .ro A 2 n (encP b.st)]) (μ := fun u => N - u.j) ⟨0, Az, cz⟩ (Nat.zero_le _) sbz_ (by dsimp only; rw [List.replicate_zero, List.append_nil]; repeat (first | exact SubL.nil | (apply SubL.cons; (repeat (first | exact At.here | apply At.there))) | exact SubL.refl _ | apply SubL.skip)) (fun u hu => ?_)
  have hu' := hu
  refine sr ?_
  refine ww ?_
  refine nq ?_
  refine sq ?_
  refine czz (fun h1 => ?_) fun h1 => ?_
  ·
   have hjn : u.j < N := by simp only [decide_eq_true_eq] at h1; omega
   refine skp ?_
   refine q_seq ?_
   refine sq ?_
   refine bk ?_
   refine rg ?_
   refine ww ?_
   refine bs (h := fun b7 => ?_)
   refine ap (A := u.A) (h := fun A3 c3 => ?_)
   refine ww ?_
   rw [← encI_rep']
   refine nl ?_
   refine q_blk_norm ?_
   refine q_seq ?_
   refine rg ?_
   iterate 2 refine ww ?_
   refine nl ?_
   refine rn (x := u) ⟨u.j + 1, A3, c3⟩ (by dsimp only; omega) (by dsimp only; omega) sbz_ slz_
  ·
   have hjn : u.j = N := by simp only [decide_eq_false_iff_not] at h1; omega
   rw [hjn]
   refine et ?_
   iterate 2 refine q_then_exit ?_
   refine q_blk_hit ?_
   refine q_seq ?_
   refine sr ?_
   refine ww ?_
   refine nq ?_
   refine ct (X := Unit) (fun _ => True) (fun _ => [(2, .pointer (some ⟨b0, 0, none⟩)), (3, .pointer (some ⟨b1, 0, none⟩)), (4, .pointer (some ⟨b2, 0, none⟩)), (5, .bool false), (6, .pointer (some ⟨b4, 0, none⟩)), (7, .pointer (some ⟨b5, 0, none⟩)), (8, .slice u.A (es.length + N) u.c), (10, .pointer (some ⟨b6, 0, none⟩)), (11, .int .i64 (tlV p)), (18, .slice A n c), (19, .int .i64 n), (20, .int .i64 z)]) (fun _ => [.own u.A u.c 3 1 (es.length + N) (encI (es ++ List.replicate N 0)), .blk b6 38 [.int .i64 p.1, .int .i64 p.2], .obj b3 (.map #[] 0), .blk b5 156 [.int .i64 (wonTo b.st z).1, .int .i64 (wonTo b.st z).2, .int .i64 0, .int .i64 0, .int .i64 0, .int .i64 0, .int .i64 0], .blk b4 153 (restc f b3), .blk b0 35 f.cells, .blk b1 40 (b.cells A n c), .blk b2 125 [.int .i64 0, .int .i64 0, .int .i64 0, .int .i64 0], .ro A 2 n (encP b.st)]) (h1 := ?_) (h2 := ?_)
   ·
    refine sr ?_
    iterate 7 refine ww ?_
    apply brOr 7 42 49 (by exact rfl)
    ·
     intro hb2
     iterate 6 refine uw ?_
     refine ww ?_
     exact mg (by repeat (first | exact trivial | refine ⟨rfl, ?_⟩ | refine ⟨by rw [hb2]; rfl, ?_⟩)) slz_
    ·
     intro hb2
     repeat (first | refine uz ?_ | refine kz ?_ | refine wz ?_)
     exact mg (by repeat (first | exact trivial | refine ⟨rfl, ?_⟩ | refine ⟨by rw [hb2]; rfl, ?_⟩)) slz_
    refine nq ?_
    refine czz (fun h3 => ?_) fun h3 => ?_
    ·
     have htl : tlV p = 1 := by rw [tlV, tlB, h3]; rfl
     refine rg ?_
     refine ww ?_
     refine nl ?_
     rw [htl]
     exact ctn () trivial sbz_ slz_
    ·
     have htl : tlV p = 0 := by rw [tlV, tlB, h3]; rfl
     refine skp ?_
     rw [htl]
     exact ctn () trivial sbz_ slz_
   rintro ⟨⟩ -
   refine sr ?_
   iterate 2 refine ww ?_
   refine bs (h := fun b8 => ?_)
   refine ap (A := u.A) (h := fun A4 c4 => ?_)
   refine ww ?_
   rw [← encI_app']
   refine nr ?_
   iterate 5 refine ww ?_
   refine nq ?_
   refine czz (fun h4 => ?_) fun h4 => ?_
   ·
    have hwn : wonTo b.st (z + 1) = ((wonTo b.st z).1 + 1, (wonTo b.st z).2) := by rw [hw1, wside, h4]; rfl
    refine rg ?_
    iterate 6 refine ww ?_
    first | refine st (h := ?_) | refine stE (h := ?_)
    refine nl ?_
    refine q_blk_norm ?_
    refine q_seq ?_
    refine rg ?_
    iterate 2 refine ww ?_
    refine nl ?_
    refine rn (X := OZ) (x := ⟨z, Az, cz, es⟩) ⟨z + 1, A4, c4, (es ++ List.replicate N 0) ++ [tlV p]⟩ ⟨by dsimp only; omega, by dsimp only; simp only [List.length_append, List.length_replicate, List.length_cons, List.length_nil]; omega, es ++ List.replicate N 0, by rw [tailE_succ hp]⟩ (by dsimp only; omega) (by dsimp only; rw [hL9]; repeat (first | exact trivial | refine ⟨rfl, ?_⟩)) (by dsimp only; rw [hL9, hwn]; repeat (first | exact SubL.nil | (apply SubL.cons; (repeat (first | exact At.here | apply At.there))) | exact SubL.refl _ | apply SubL.skip))
   ·
    have hwn : wonTo b.st (z + 1) = ((wonTo b.st z).1, (wonTo b.st z).2 + 1) := by rw [hw1, wside, h4]; rfl
    refine rg ?_
    iterate 6 refine ww ?_
    first | refine st (h := ?_) | refine stE (h := ?_)
    refine nl ?_
    refine q_blk_norm ?_
    refine q_seq ?_
    refine rg ?_
    iterate 2 refine ww ?_
    refine nl ?_
    refine rn (X := OZ) (x := ⟨z, Az, cz, es⟩) ⟨z + 1, A4, c4, (es ++ List.replicate N 0) ++ [tlV p]⟩ ⟨by dsimp only; omega, by dsimp only; simp only [List.length_append, List.length_replicate, List.length_cons, List.length_nil]; omega, es ++ List.replicate N 0, by rw [tailE_succ hp]⟩ (by dsimp only; omega) (by dsimp only; rw [hL9]; repeat (first | exact trivial | refine ⟨rfl, ?_⟩)) (by dsimp only; rw [hL9, hwn]; repeat (first | exact SubL.nil | (apply SubL.cons; (repeat (first | exact At.here | apply At.there))) | exact SubL.refl _ | apply SubL.skip))
 ·
  have hkn : z.k = n := by simp only [decide_eq_false_iff_not] at h0; omega
  obtain ⟨z, Az, cz, es⟩ := z
  dsimp only at *
  have hkn2 := hkn.symm
  subst hkn2
  have hnb := numTo_bd hb n (by omega)
  have hwv : wonV b.st = wonTo b.st n := by rw [wonV, hlen]
  rw [← hwv]
  obtain ⟨G, hG⟩ : ∃ G : Nat, b.g.1 + b.g.2 = (G : Int) := ⟨(b.g.1 + b.g.2).toNat, by omega⟩
  refine et ?_
  iterate 2 refine q_then_exit ?_
  refine q_blk_hit ?_
  refine q_seq ?_
  refine sq ?_
  refine sr ?_
  iterate 10 refine ww ?_
  refine nq ?_
  refine czz (fun h5 => ?_) fun h5 => ?_
  ·
   have hov : overV f (wonV b.st) = true := h5
   have hE : restC f b = zC := by rw [restC, hov]; rfl
   refine sr ?_
   refine ww ?_
   first | refine stA (h := ?_) | refine stEA (h := ?_)
   refine ww ?_
   refine nq ?_
   refine rtn ?_
   refine q_then_ret ?_
   refine q_ret (hR := ?_)
   rw [hE, hov]
   exact fun w hS => ⟨rfl, hS.sub slz_⟩
  ·
   have hov : overV f (wonV b.st) = false := h5
   obtain ⟨hop, hpt⟩ : OpenP f (setV f (wonV b.st)) b.g.1 b.g.2 ∧ arePts f (tiedV f b.st b.g) (setV f (wonV b.st)).2 b.p = true := by
    rcases hw3 with h3 | ⟨_, h4, h5⟩
    ·
     rw [h3] at hov; cases hov
    ·
     exact ⟨h4, h5⟩
   have hov2 := hov
   rw [over_won hwo, Bool.or_eq_false_iff, decide_eq_false_iff_not, decide_eq_false_iff_not] at hov2
   unfold WonOk at hwo
   have hV : Vs f (wonV b.st) b.g := ⟨by omega, hop⟩
   refine skp ?_
   refine q_seq ?_
   refine sq ?_
   refine sr ?_
   iterate 8 refine ww ?_
   refine nq ?_
   refine bk ?_
   refine lp (X := OJ) (I := fun v => v.j ≤ G) (le := fun v => [(2, .pointer (some ⟨b0, 0, none⟩)), (3, .pointer (some ⟨b1, 0, none⟩)), (4, .pointer (some ⟨b2, 0, none⟩)), (5, .bool false), (6, .pointer (some ⟨b4, 0, none⟩)), (7, .pointer (some ⟨b5, 0, none⟩)), (8, .slice v.A (es.length + v.j) v.c), (89, .int .i64 (b.g.1 + b.g.2)), (90, .int .i64 v.j)]) (Le := fun v => [.own v.A v.c 3 1 (es.length + v.j) (encI (es ++ List.replicate v.j 0)), .obj b3 (.map #[] 0), .blk b5 156 [.int .i64 (wonV b.st).1, .int .i64 (wonV b.st).2, .int .i64 0, .int .i64 0, .int .i64 0, .int .i64 0, .int .i64 0], .blk b4 153 (restc f b3), .blk b0 35 f.cells, .blk b1 40 (b.cells A n c), .blk b2 125 [.int .i64 0, .int .i64 0, .int .i64 0, .int .i64 0], .ro A 2 n (encP b.st)]) (μ := fun v => G - v.j) ⟨0, Az, cz⟩ (Nat.zero_le _) sbz_ (by dsimp only; rw [List.replicate_zero, List.append_nil]; repeat (first | exact SubL.nil | (apply SubL.cons; (repeat (first | exact At.here | apply At.there))) | exact SubL.refl _ | apply SubL.skip)) (fun v hv => ?_)
   have hv' := hv
   refine sr ?_
   refine ww ?_
   refine nq ?_
   refine sq ?_
   refine czz (fun h6 => ?_) fun h6 => ?_
   ·
    have hjn : v.j < G := by simp only [decide_eq_true_eq] at h6; omega
    refine skp ?_
    refine q_seq ?_
    refine sq ?_
    refine bk ?_
    refine rg ?_
    refine ww ?_
    refine bs (h := fun b9 => ?_)
    refine ap (A := v.A) (h := fun A5 c5 => ?_)
    refine ww ?_
    rw [← encI_rep']
    refine nl ?_
    refine q_blk_norm ?_
    refine q_seq ?_
    refine rg ?_
    iterate 2 refine ww ?_
    refine nl ?_
    refine rn (x := v) ⟨v.j + 1, A5, c5⟩ (by dsimp only; omega) (by dsimp only; omega) sbz_ slz_
   ·
    have hjn : v.j = G := by simp only [decide_eq_false_iff_not] at h6; omega
    rw [hjn]
    have hnv : numV b = ((es.length + G : Nat) : Int) := by rw [numV, hlen, hG, hze]; omega
    have hnl : ((es ++ List.replicate G 0).length : Int) = numV b := by rw [List.length_append, List.length_replicate, hnv]
    have hel : (es ++ List.replicate G 0).length = es.length + G := by rw [List.length_append, List.length_replicate]
    refine et ?_
    iterate 2 refine q_then_exit ?_
    refine q_blk_hit ?_
    refine q_seq ?_
    refine sr ?_
    iterate 5 refine ww ?_
    first | refine stA (h := ?_) | refine stEA (h := ?_)
    refine ww ?_
    first | refine st (h := ?_) | refine stE (h := ?_)
    rw [← hnv]
    refine nr ?_
    iterate 5 refine ww ?_
    refine cl0 (hc := fun w hS => C_rest_tie f b3 (wonV b.st) b.g hf w) (h := ?_)
    refine ww ?_
    refine wy ixA ?_
    first | refine st (h := ?_) | refine stE (h := ?_)
    refine nq ?_
    refine ct (X := Unit) (fun _ => True) (fun _ => [(2, .pointer (some ⟨b0, 0, none⟩)), (3, .pointer (some ⟨b1, 0, none⟩)), (4, .pointer (some ⟨b2, 0, none⟩)), (5, .bool false), (6, .pointer (some ⟨b4, 0, none⟩)), (7, .pointer (some ⟨b5, 0, none⟩))]) (fun _ => [.obj b3 (.map #[] 0), .blk b5 156 [.int .i64 (wonV b.st).1, .int .i64 (wonV b.st).2, .int .i64 b.g.1, .int .i64 b.g.2, .int .i64 (numV b), .int .i64 (tieN f (wonV b.st) b.g), .int .i64 (t1V b)], .blk b4 153 (restc f b3), .blk b0 35 f.cells, .blk b1 40 (b.cells A n c), .blk b2 125 [.int .i64 0, .int .i64 0, .int .i64 0, .int .i64 0], .ro A 2 n (encP b.st)]) (h1 := ?_) (h2 := ?_)
    ·
     refine sr ?_
     iterate 3 refine ww ?_
     refine nq ?_
     refine czz (fun h7 => ?_) fun h7 => ?_
     ·
      have hpos : 0 < numV b := of_decide_eq_true h7
      have hlast : (es ++ List.replicate G 0)[(numV b - 1).toNat]? = some (t1V b) := by
       obtain ⟨pre, hpre⟩ := hzt
       rw [show (numV b - 1).toNat = es.length + G - 1 by omega, t1V, hG]
       cases hGc : G with
       | zero =>
        rw [hpre, hlen]
        rcases Nat.eq_zero_or_pos n with hn0 | hn0
        ·
         have h9 : es.length = 0 := by rw [hze, hn0]; rfl
         omega
        ·
         obtain ⟨z', hz'⟩ : ∃ z', n = z' + 1 := ⟨n - 1, by omega⟩
         have hp' : b.st[z']? = some (b.st[z']'(by omega)) := List.getElem?_eq_getElem (by omega)
         rw [hz', tailE_succ hp', List.replicate_zero, List.append_nil]
         simp
       | succ G' =>
        rw [List.getElem?_append_right (by omega), List.getElem?_replicate, if_pos (by omega), decide_eq_true (by omega)]; rfl
      have hle9 := encI_at hlast
      refine rg ?_
      iterate 4 refine ww ?_
      refine wy (ix (A := v.A) (m := es.length + G) (hb := by omega)) ?_
      refine wy (ldE (A := v.A) (hk := hle9)) ?_
      refine ww ?_
      refine wy ixA ?_
      first | refine st (h := ?_) | refine stE (h := ?_)
      refine nl ?_
      first | exact ctn () trivial sbz_ (by rw [ht0]; repeat (first | exact SubL.nil | (apply SubL.cons; (repeat (first | exact At.here | apply At.there))) | exact SubL.refl _ | apply SubL.skip)) | exact ctn () trivial sbz_ slz_
     ·
      have hz0 : ¬ 0 < numV b := of_decide_eq_false h7
      have ht0 : t1V b = 0 := by
       obtain ⟨pre, hpre⟩ := hzt
       rw [t1V]
       cases hc : decide (0 < b.g.1 + b.g.2)
       ·
        rw [cond_false, hlen]
        have he : es = [] := List.eq_nil_of_length_eq_zero (by omega)
        rw [he] at hpre
        have := (List.append_eq_nil_iff.1 hpre.symm).2
        rw [this]; rfl
       ·
        rfl
      refine skp ?_
      first | exact ctn () trivial sbz_ (by rw [ht0]; repeat (first | exact SubL.nil | (apply SubL.cons; (repeat (first | exact At.here | apply At.there))) | exact SubL.refl _ | apply SubL.skip)) | exact ctn () trivial sbz_ slz_
    rintro ⟨⟩ -
    refine sr ?_
    iterate 2 refine ww ?_
    refine clT (hc := fromB_all f hf hbd 200 ⟨wonV b.st, b.g, numV b, tieN f (wonV b.st) b.g, t1V b⟩ [] #[] 0 b3 hV rfl (by show remV f (wonV b.st) b.g < _; have := rem_le hf hV; omega) ⟨by show 0 ≤ numV b; omega, by show numV b + remV f (wonV b.st) b.g ≤ 1000; have := rem_le hf hV; omega⟩ mapIs0 (good_nil f)) (h := fun x hx => ?_)
    dsimp only
    obtain ⟨r, hr⟩ : ∃ r, r = fromP f (wonV b.st) b.g (numV b) (t1V b) := ⟨_, rfl⟩
    have hrb := csb_P (n := numV b) (t1 := t1V b) hf hV
    rw [← hr] at hrb ⊢
    unfold CsB at hrb
    first | refine stA (h := ?_) | refine stEA (h := ?_)
    refine nq ?_
    refine sq ?_
    refine sr ?_
    refine ww ?_
    refine cl0 (hc := fun w hS => C_balls_begun _ _ _ _ w) (h := ?_)
    iterate 5 refine ww ?_
    refine nr ?_
    iterate 2 refine ww ?_
    refine nq ?_
    refine czz (fun h8 => ?_) fun h8 => ?_
    ·
     have hz : (isZ b.g && isZ b.p) = true := by
      have h' : (!(!isZ b.g || !isZ b.p)) = true := h8
      cases h1 : isZ b.g <;> cases h2 : isZ b.p <;> rw [h1, h2] at h' <;> first | rfl | cases h'
     have hE : restC f b = bumpC r false true := by rw [restC, hov, cond_false, hz, ← hr]
     refine rg ?_
     iterate 10 refine ww ?_
     first | refine stA (h := ?_) | refine stEA (h := ?_)
     refine nr ?_
     refine ww ?_
     first | refine stA (h := ?_) | refine stEA (h := ?_)
     refine ww ?_
     refine nq ?_
     refine rtn ?_
     refine q_ret (hR := ?_)
     rw [hE, hov, bumpC, show bz false = 0 from rfl, show bz true = 1 from rfl, Int.add_zero, Int.add_zero]
     exact fun w hS => ⟨rfl, hS.sub slz_⟩
    ·
     have hz : (isZ b.g && isZ b.p) = false := by
      have h' : (!(!isZ b.g || !isZ b.p)) = false := h8
      cases h1 : isZ b.g <;> cases h2 : isZ b.p <;> rw [h1, h2] at h' <;> first | rfl | cases h'
     have hE : restC f b = bumpC r false false := by rw [restC, hov, cond_false, hz, ← hr]
     refine skp ?_
     refine q_seq ?_
     refine sr ?_
     refine ww ?_
     first | refine stA (h := ?_) | refine stEA (h := ?_)
     refine ww ?_
     refine nq ?_
     refine rtn ?_
     refine q_ret (hR := ?_)
     rw [hE, hov, bumpC, show bz false = 0 from rfl, Int.add_zero, Int.add_zero, Int.add_zero, Int.add_zero]
     exact fun w hS => ⟨rfl, hS.sub slz_⟩
end Go.Proofs.YtpmmgljndceplaaGreat

namespace Go.Proofs.YtpmmgljndceplaaGreat
open Go Go.RowKit

def shortV (f : Fmt) : Int := bif decide ((ruleV f (decide (f.sets = 1))).1 = 0) then 1 else max 2 f.games
def fewBd (f : Fmt) : Int := bif decide ((ruleV f (decide (f.sets = 1))).1 = 0) then max (ruleV f (decide (f.sets = 1))).2 2 else 4 * max 2 f.games
def highV (f : Fmt) : Int := bif decide (0 ≤ f.ltie) && (decide (f.sets = 1) || decide (0 ≤ f.tie)) then (2 * f.sets - 2) * (2 * f.tie + 1) + 2 * f.ltie + 1 else -1
theorem ext_form {f : Fmt} {s : Pr} (ht : TieOk f s) : extV f s = ⟨bif decide (s.1 = 0) then 1 else max f.games 2, bif decide (0 ≤ s.1) then 2 * s.1 + 1 else -1, bif decide (s.1 = 0) then max s.2 2 else 4 * max f.games 2⟩ := by
 unfold extV
 unfold TieOk at ht
 by_cases h0 : s.1 = 0
 ·
  rw [decide_eq_true h0, h0]; rfl
 ·
  rw [decide_eq_false h0]
  by_cases h1 : s.1 = -1
  ·
   rw [decide_eq_true h1, decide_eq_false (show ¬ 0 ≤ s.1 by omega)]; rfl
  ·
   rw [decide_eq_false h1, decide_eq_true (show 0 ≤ s.1 by omega)]; rfl
theorem range_ref {f : Fmt} (hf : f.Ok) : rangeE f = ⟨f.sets * shortV f, highV f, f.sets * fewBd f⟩ := by
 have ht : TieOk f (f.tie, f.to) := ⟨hf.g0, hf.t⟩
 have hl : TieOk f (f.ltie, f.lto) := ⟨hf.g0, hf.lt⟩
 unfold rangeE
 by_cases h1 : f.sets = 1
 ·
  rw [decide_eq_true h1, cond_true, lastE, ext_form hl, shortV, fewBd, highV, decide_eq_true h1, h1]
  simp only [ruleV, cond_true, Bool.true_or, Bool.and_true, Int.one_mul]
  rw [Int.max_comm f.games 2, show (2 * 1 - 2 : Int) = 0 by rfl, Int.zero_mul, Int.zero_add]
  rfl
 ·
  rw [decide_eq_false h1, cond_false, lastE, eachE, ext_form hl, ext_form ht, shortV, fewBd, highV, decide_eq_false h1]
  simp only [ruleV, cond_false, Bool.false_or]
  rw [Int.max_comm f.games 2]
  by_cases a : 0 ≤ f.ltie
  ·
   by_cases b : 0 ≤ f.tie
   ·
    simp only [decide_eq_true a, decide_eq_true b, cond_true, Bool.true_and]
    rw [decide_eq_true (show (0 : Int) ≤ 2 * f.ltie + 1 by omega), decide_eq_true (show (0 : Int) ≤ 2 * f.tie + 1 by omega)]
    simp only [Bool.and_self, cond_true, Int.add_assoc]
    rfl
   ·
    simp only [decide_eq_true a, decide_eq_false b, cond_true, cond_false, Bool.and_false]
    rw [show decide ((0 : Int) ≤ -1) = false from rfl, Bool.and_false]
    rfl
  ·
   simp only [decide_eq_false a, cond_false, Bool.false_and]
   rfl
theorem bdd_high {f : Fmt} (hf : f.Ok) (h : ¬ (rangeE f).high < 0) : Bdd f ∧ (rangeE f).high = (2 * f.sets - 2) * (2 * f.tie + 1) + 2 * f.ltie + 1 := by
 rw [range_ref hf] at h ⊢
 dsimp only at h ⊢
 unfold highV at *
 cases hc : decide (0 ≤ f.ltie) && (decide (f.sets = 1) || decide (0 ≤ f.tie))
 ·
  rw [hc] at h; exact absurd (show (-1 : Int) < 0 by decide) h
 ·
  rw [Bool.and_eq_true, Bool.or_eq_true, decide_eq_true_eq, decide_eq_true_eq, decide_eq_true_eq] at hc
  exact ⟨hc, rfl⟩
theorem C_ref1_Range (f : Fmt) (w : World) : C0 Tryz.prog 50 [f.val] w (.tuple (rangeR f).toArray) := by
 refine ⟨en Tryz.func50 Tryz.ntmps50 (St.init w) (h := fun F => ?_)⟩
 refine sr ?_
 refine bxA (h := fun b0 => ?_)
 refine al (h := fun b1 => ?_)
 iterate 2 refine ww ?_
 refine nq ?_
 refine sq ?_
 refine sr ?_
 refine ww ?_
 refine cl0 (hc := fun w hS => C_ref1_Check _ w) (h := ?_)
 refine ww ?_
 refine nq ?_
 refine czz (fun h0 => ?_) fun h0 => ?_
 ·
  have h' : decide (chkF f = 0) = false := by simpa using h0
  have hck : (!decide (chkF f = 0)) = true := h0
  have hR : rangeR f = [.agg #[.int .i64 0, .int .i64 0], .int .i64 0, .int .i64 10] := by rw [rangeR, h', chk_bad hck]; rfl
  refine sr ?_
  refine ww ?_
  first | refine stA (h := ?_) | refine stEA (h := ?_)
  iterate 2 refine ww ?_
  refine nq ?_
  refine rtn ?_
  refine q_then_ret ?_
  refine q_ret (hR := ?_)
  rw [hR]
  exact fun w hS => ⟨rfl, hS.sub slz_⟩
 ·
  have hf := chkF_ok h0
  have hc : decide (chkF f = 0) = true := by simpa using h0
  have hR0 : rangeR f = [.agg #[.int .i64 (f.sets * shortV f), .int .i64 (highV f)], .int .i64 (f.sets * fewBd f), .int .i64 0] := by rw [rangeR, hc, range_ref hf]; rfl
  have hs0 := hf.s0
  have hs1 := hf.s1
  have hg0 := hf.g0
  have hg1 := hf.g1
  have ho := hf.o1
  have hlo := hf.l1
  have ho0 := hf.o0
  have hlo0 := hf.l0
  have ht := hf.t
  have hlt := hf.lt
  have hrb : 1 ≤ (ruleV f (decide (f.sets = 1))).2 ∧ (ruleV f (decide (f.sets = 1))).2 ≤ 15 := by unfold ruleV; cases decide (f.sets = 1) <;> simp only [cond_true, cond_false] <;> omega
  have hsv : f.sets = 1 ∨ f.sets = 2 ∨ f.sets = 3 := by omega
  have hsh : 1 ≤ shortV f ∧ shortV f ≤ 8 := by unfold shortV; cases decide ((ruleV f (decide (f.sets = 1))).1 = 0) <;> simp only [cond_true, cond_false] <;> omega
  have hfw : 1 ≤ fewBd f ∧ fewBd f ≤ 32 := by unfold fewBd; cases decide ((ruleV f (decide (f.sets = 1))).1 = 0) <;> simp only [cond_true, cond_false] <;> omega
  have m1 : -1000 ≤ f.sets * shortV f ∧ f.sets * shortV f ≤ 1000 := by rcases hsv with e | e | e <;> rw [e] <;> omega
  have m2 : -1000 ≤ f.sets * fewBd f ∧ f.sets * fewBd f ≤ 1000 := by rcases hsv with e | e | e <;> rw [e] <;> omega
  have m3 : -1000 ≤ (2 * f.sets - 2) * (2 * f.tie + 1) ∧ (2 * f.sets - 2) * (2 * f.tie + 1) ≤ 1000 := by rcases hsv with e | e | e <;> rw [e] <;> omega
  refine skp ?_
  refine q_seq ?_
  refine sr ?_
  iterate 4 refine ww ?_
  refine nr ?_
  iterate 2 refine ww ?_
  refine cl0 (hc := fun w hS => C_ref1_Rule f _ w) (h := ?_)
  iterate 5 refine ww ?_
  refine nq ?_
  refine sq ?_
  refine rgD0 (by kernel_rfl) (h := ?_)
  refine tw 0 ?_
  refine tw 1 ?_
  refine tw 2 ?_
  refine tw 3 ?_
  refine tw 4 ?_
  refine tw 5 ?_
  refine tw 6 ?_
  refine tw 7 ?_
  refine tw 8 ?_
  refine dn (h := ?_)
  refine q_seq ?_
  refine ct (X := Unit) (fun _ => True) (fun _ => [(1, .pointer (some ⟨b0, 0, none⟩)), (2, .pointer (some ⟨b1, 0, none⟩)), (3, .int .i64 0), (4, .int .i64 0), (5, .bool (decide (f.sets = 1))), (8, .int .i64 (shortV f)), (9, .int .i64 (fewBd f))]) (fun _ => [.blk b1 56 [.int .i64 0, .int .i64 0], .blk b0 35 f.cells]) (h1 := ?_) (h2 := ?_)
  ·
   refine sr ?_
   iterate 2 refine ww ?_
   refine nq ?_
   refine czz (fun h1 => ?_) fun h1 => ?_
   ·
    have k1 : shortV f = 1 := by rw [shortV, h1]; rfl
    have k2 : fewBd f = max (ruleV f (decide (f.sets = 1))).2 2 := by rw [fewBd, h1]; rfl
    refine rg ?_
    iterate 4 refine ww ?_
    refine nl ?_
    rw [k1, k2]
    exact ctn () trivial sbz_ slz_
   ·
    have k1 : shortV f = max 2 f.games := by rw [shortV, h1]; rfl
    have k2 : fewBd f = 4 * max 2 f.games := by rw [fewBd, h1]; rfl
    refine skp ?_
    rw [k1, k2]
    exact ctn () trivial sbz_ slz_
  rintro ⟨⟩ -
  refine sr ?_
  iterate 3 refine ww ?_
  refine wy (mulI (a := f.sets) (b := shortV f) (hb := by omega)) ?_
  refine ww ?_
  first | refine stA (h := ?_) | refine stEA (h := ?_)
  refine nq ?_
  refine ct (X := Unit) (fun _ => True) (fun _ => [(1, .pointer (some ⟨b0, 0, none⟩)), (2, .pointer (some ⟨b1, 0, none⟩)), (3, .int .i64 0), (4, .int .i64 0), (9, .int .i64 (fewBd f))]) (fun _ => [.blk b1 56 [.int .i64 (f.sets * shortV f), .int .i64 (highV f)], .blk b0 35 f.cells]) (h1 := ?_) (h2 := ?_)
  ·
   refine sr ?_
   iterate 4 refine ww ?_
   apply brAnd 7 42 49 (by exact rfl)
   ·
    intro hb2
    iterate 2 refine uw ?_
    apply brOr 4 44 48 (by exact rfl)
    ·
     intro hb3
     iterate 4 refine uw ?_
     exact mg (by repeat (first | exact trivial | refine ⟨rfl, ?_⟩ | refine ⟨by rw [hb3]; rfl, ?_⟩ | refine ⟨by rw [hb2]; rfl, ?_⟩)) slz_
    ·
     intro hb3
     repeat (first | refine uz ?_ | refine kz ?_ | refine wz ?_)
     exact mg (by repeat (first | exact trivial | refine ⟨rfl, ?_⟩ | refine ⟨by rw [hb3]; rfl, ?_⟩ | refine ⟨by rw [hb2]; rfl, ?_⟩)) slz_
    refine ww ?_
    exact mg (by repeat (first | exact trivial | refine ⟨rfl, ?_⟩ | refine ⟨by rw [hb2]; rfl, ?_⟩)) slz_
   ·
    intro hb2
    repeat (first | refine uz ?_ | refine kz ?_ | refine wz ?_)
    exact mg (by repeat (first | exact trivial | refine ⟨rfl, ?_⟩ | refine ⟨by rw [hb2]; rfl, ?_⟩)) slz_
   refine nq ?_
   refine czz (fun h4 => ?_) fun h4 => ?_
   ·
    have k3 : highV f = (2 * f.sets - 2) * (2 * f.tie + 1) + 2 * f.ltie + 1 := by rw [highV, h4]; rfl
    refine rg ?_
    iterate 8 refine ww ?_
    refine wy (mulI (a := 2 * f.sets - 2) (b := 2 * f.tie + 1) (hb := by omega)) ?_
    iterate 6 refine ww ?_
    first | refine st (h := ?_) | refine stE (h := ?_)
    refine nl ?_
    rw [k3]
    exact ctn () trivial sbz_ slz_
   ·
    have k3 : highV f = -1 := by rw [highV, h4]; rfl
    refine skp ?_
    rw [k3]
    exact ctn () trivial sbz_ slz_
  rintro ⟨⟩ -
  have hR := hR0
  refine sq ?_
  refine rgD (by kernel_rfl) [(1000000, .blk b0 35 f.cells), (5, .blk b1 56 _)] (by repeat (first | exact HS.nil | (apply HS.keep; (repeat (first | exact At.here | apply At.there))) | (apply HS.ro; (repeat (first | exact Rds.ro | exact Rds.own | apply Rds.there))))) (h := ?_)
  refine tw 0 ?_
  refine tw 1 ?_
  refine tw 2 ?_
  refine tw 3 ?_
  refine tk 4 (hy := mulI (a := f.sets) (b := fewBd f) (hb := by omega)) (h := ?_)
  refine one 5 (h := ?_)
  first | refine stA (h := ?_) | refine stEA (h := ?_)
  refine nx (h := ?_)
  refine tw 6 ?_
  refine tw 7 ?_
  refine dn (h := ?_)
  refine q_seq ?_
  refine rtn ?_
  refine q_ret (hR := ?_)
  rw [hR]
  exact fun w hS => ⟨rfl, hS.sub slz_⟩

def checkE (f : Fmt) (b : Brd) : Int := bif !decide (chkF f = 0) then chkF f else bif !brdOk b then 12 else bif !(arisesV f b).2 then 12 else bif decide ((rangeE f).high < 0) then 3 else 0
theorem check_form (f : Fmt) (b : Brd) : ∃ (is : Bool) (e : Int), arisesR f b = [.bool is, .int .i64 e] ∧ checkE f b = (bif !decide (e = 0) then e else bif !is then 12 else bif decide ((rangeE f).high < 0) then 3 else 0) ∧ (e = 0 → (!decide (chkF f = 0)) = false ∧ brdOk b = true ∧ (arisesV f b).2 = is) := by
 unfold arisesR checkE
 cases hc : !decide (chkF f = 0)
 ·
  cases hb : brdOk b
  ·
   exact ⟨false, 12, rfl, rfl, fun e => by cases e⟩
  ·
   exact ⟨_, 0, rfl, rfl, fun _ => ⟨rfl, rfl, rfl⟩⟩
 ·
  have h10 := chk_bad hc
  refine ⟨false, chkF f, rfl, by rw [h10]; rfl, fun e => by rw [h10] at e; cases e⟩
theorem check_ok {f : Fmt} {b : Brd} (h : checkE f b = 0) : f.Ok ∧ brdOk b = true ∧ (arisesV f b).2 = true ∧ ¬ (rangeE f).high < 0 := by
 obtain ⟨is, e, -, h1, h2⟩ := check_form f b
 rw [h1] at h
 cases he : !decide (e = 0)
 ·
  obtain ⟨a1, a2, a3⟩ := h2 (by simpa using he)
  rw [he, cond_false] at h
  cases his : is
  ·
   rw [his] at h; cases h
  ·
   rw [his] at h a3
   cases hh : decide ((rangeE f).high < 0)
   ·
    exact ⟨chkF_ok a1, a2, a3, of_decide_eq_false hh⟩
   ·
    rw [hh] at h; cases h
 ·
  rw [he, cond_true] at h
  rw [h] at he; cases he
theorem rangeR_ok {f : Fmt} (h : (!decide (chkF f = 0)) = false) : rangeR f = [.agg #[.int .i64 (rangeE f).low, .int .i64 (rangeE f).high], .int .i64 (rangeE f).pts, .int .i64 0] := by
 have hc : decide (chkF f = 0) = true := by simpa using h
 rw [rangeR, hc]; rfl
theorem C_balls_check (f : Fmt) (b : Brd) (A : Option Addr) (n c : Nat) (w : World) (h : Rd w A 2 n (encP b.st)) (hn : n ≤ 9223372036854775807) : C0 Tryz.prog 46 [f.val, b.val A n c] w (.int .i64 (checkE f b)) := by
 obtain ⟨is, e, hA, hL, hfa⟩ := check_form f b
 refine ⟨en Tryz.func46 Tryz.ntmps46 ((St.init w).share (e := .ro A 2 n (encP b.st)) h rfl rfl rfl) (h := fun F => ?_)⟩
 refine sr ?_
 refine bxA (h := fun b0 => ?_)
 refine bxA (h := fun b1 => ?_)
 refine ww ?_
 refine nr ?_
 iterate 2 refine ww ?_
 refine cl0 (hc := fun w hS => C_score_Arises f b A n c w (hS.get rdz_) hn) (h := ?_)
 rw [hA]
 iterate 5 refine ww ?_
 refine nq ?_
 refine sq ?_
 refine sr ?_
 iterate 2 refine ww ?_
 refine nq ?_
 refine czz (fun h0 => ?_) fun h0 => ?_
 ·
  have hE : checkE f b = e := by rw [hL, h0]; rfl
  refine sr ?_
  iterate 2 refine ww ?_
  refine nq ?_
  refine rtn ?_
  refine q_then_ret ?_
  refine q_ret (hR := ?_)
  rw [hE]
  exact fun w hS => ⟨rfl, hS.sub slz_⟩
 ·
  have he0 : e = 0 := by simpa using h0
  obtain ⟨hck, hbo, hari⟩ := hfa he0
  rw [h0, cond_false] at hL
  refine skp ?_
  refine q_seq ?_
  refine sq ?_
  refine sr ?_
  iterate 2 refine ww ?_
  refine nq ?_
  refine czz (fun h1 => ?_) fun h1 => ?_
  ·
   have hE : checkE f b = 12 := by rw [hL, h1]; rfl
   refine sr ?_
   refine ww ?_
   refine nq ?_
   refine rtn ?_
   refine q_then_ret ?_
   refine q_ret (hR := ?_)
   rw [hE]
   exact fun w hS => ⟨rfl, hS.sub slz_⟩
  ·
   rw [h1, cond_false] at hL
   refine skp ?_
   refine q_seq ?_
   refine sq ?_
   refine sr ?_
   refine ww ?_
   refine cl0 (hc := fun w hS => C_score_Range f w) (h := ?_)
   rw [rangeR_ok hck]
   iterate 4 refine ww ?_
   refine al (h := fun b2 => ?_)
   first | refine stA (h := ?_) | refine stEA (h := ?_)
   iterate 2 refine ww ?_
   refine nr ?_
   iterate 3 refine ww ?_
   refine nq ?_
   refine czz (fun h2 => ?_) fun h2 => ?_
   ·
    have hE : checkE f b = 3 := by rw [hL, h2]; rfl
    refine sr ?_
    refine ww ?_
    refine nq ?_
    refine rtn ?_
    refine q_then_ret ?_
    refine q_ret (hR := ?_)
    rw [hE]
    exact fun w hS => ⟨rfl, hS.sub slz_⟩
   ·
    have hE : checkE f b = 0 := by rw [hL, h2]; rfl
    refine skp ?_
    refine q_seq ?_
    refine sr ?_
    refine ww ?_
    refine nq ?_
    refine rtn ?_
    refine q_ret (hR := ?_)
    rw [hE]
    exact fun w hS => ⟨rfl, hS.sub slz_⟩
end Go.Proofs.YtpmmgljndceplaaGreat

namespace Go.Proofs.YtpmmgljndceplaaGreat
open Go Go.RowKit

end Go.Proofs.YtpmmgljndceplaaGreat

namespace Go.Proofs.YtpmmgljndceplaaGreat
open Go Go.RowKit

section
variable {f : Fmt} {B : Int} {j u v x S G : Nat}
end
end Go.Proofs.YtpmmgljndceplaaGreat

namespace Go.Proofs.YtpmmgljndceplaaGreat
open Go Go.RowKit

section
variable {f : Fmt} {b : Brd}
end
end Go.Proofs.YtpmmgljndceplaaGreat

namespace Go.Proofs.YtpmmgljndceplaaGreat
open Go Go.RowKit

structure Fx where
 (day : Int) (f : Fmt) (b : Brd) (A : Option Addr) (c : Nat)
abbrev Fx.enc (x : Fx) : List Value := [.int .i64 x.day, .int .i64 x.f.sets, .int .i64 x.f.games, .bool x.f.noAd, .int .i64 x.f.tie, .int .i64 x.f.to, .int .i64 x.f.ltie, .int .i64 x.f.lto, .int .i64 x.f.first, .int .i64 x.f.thn, .bool x.f.dbl, .slice x.A x.b.st.length x.c, .int .i64 x.b.g.1, .int .i64 x.b.g.2, .int .i64 x.b.p.1, .int .i64 x.b.p.2]
abbrev Fx.val (x : Fx) : Value := .agg #[.int .i64 x.day, .int .i64 x.f.sets, .int .i64 x.f.games, .bool x.f.noAd, .int .i64 x.f.tie, .int .i64 x.f.to, .int .i64 x.f.ltie, .int .i64 x.f.lto, .int .i64 x.f.first, .int .i64 x.f.thn, .bool x.f.dbl, .slice x.A x.b.st.length x.c, .int .i64 x.b.g.1, .int .i64 x.b.g.2, .int .i64 x.b.p.1, .int .i64 x.b.p.2]
structure Fx.ok (x : Fx) (w : World) : Prop where
 r : Rd w x.A 2 x.b.st.length (encP x.b.st)
 n : x.b.st.length ≤ x.c
 c : x.c ≤ 9223372036854775807
structure Cx where
 (day item count : Int)
abbrev Cx.enc (x : Cx) : List Value := [.int .i64 x.day, .int .i64 x.item, .int .i64 x.count]
structure Dp where
 (each tow fra : Int) (st : List Int) (fx : List Fx) (cr : List Cx)
structure DA where
 (sA fA cA : Option Addr) (sc fc cc : Nat)
abbrev Dp.cells (d : Dp) (a : DA) : List Value := [.int .i64 d.each, .int .i64 d.tow, .int .i64 d.fra, .slice a.sA d.st.length a.sc, .slice a.fA d.fx.length a.fc, .slice a.cA d.cr.length a.cc]
abbrev Dp.val (d : Dp) (a : DA) : Value := .agg #[.int .i64 d.each, .int .i64 d.tow, .int .i64 d.fra, .slice a.sA d.st.length a.sc, .slice a.fA d.fx.length a.fc, .slice a.cA d.cr.length a.cc]
structure DpR (w : World) (d : Dp) (a : DA) : Prop where
 s : Rd w a.sA 1 d.st.length (encI d.st)
 f : Rd w a.fA 16 d.fx.length (d.fx.map Fx.enc)
 c : Rd w a.cA 3 d.cr.length (d.cr.map Cx.enc)
 x : ∀ y ∈ d.fx, y.ok w
 sc : d.st.length ≤ 9223372036854775807
 fc : d.fx.length ≤ 9223372036854775807
 cc : d.cr.length ≤ 9223372036854775807
def kitB (d : Dp) : Bool := wi d.each 0 20 && wi d.tow 0 20 && wi d.fra 0 20
def lenB (d : Dp) : Bool := !(!decide ((d.st.length : Int) = 3) || decide (30 < (d.fx.length : Int)) || decide (30 < (d.cr.length : Int)))
def stB (d : Dp) : Bool := d.st.all fun n => wi n 0 99999
def fxOk (x : Fx) : Bool := !(!wi x.day 0 60 || !decide (checkE x.f x.b = 0))
def fxB (d : Dp) : Bool := d.fx.all fxOk
def crOk (c : Cx) : Bool := !(!wi c.day 0 60 || !wi c.item 0 2 || !wi c.count 0 99999)
def crB (d : Dp) : Bool := d.cr.all crOk
def depOk (d : Dp) : Bool := kitB d && lenB d && stB d && fxB d && crB d
def depE (d : Dp) : Int := bif depOk d then 0 else 90
section
variable {d : Dp}
theorem dep_kit (h : kitB d = false) : depE d = 90 := by rw [depE, depOk, h]; rfl
theorem dep_len (h : lenB d = false) : depE d = 90 := by rw [depE, depOk, h, Bool.and_false]; rfl
theorem dep_st (h : stB d = false) : depE d = 90 := by rw [depE, depOk, h, Bool.and_false]; rfl
theorem dep_fx (h : fxB d = false) : depE d = 90 := by rw [depE, depOk, h, Bool.and_false]; rfl
theorem dep_cr (h : crB d = false) : depE d = 90 := by rw [depE, depOk, h, Bool.and_false]; rfl
theorem dep_yes (h1 : kitB d = true) (h2 : lenB d = true) (h3 : stB d = true) (h4 : fxB d = true) (h5 : crB d = true) : depE d = 0 := by rw [depE, depOk, h1, h2, h3, h4, h5]; rfl
theorem dep_ok (h : depE d = 0) : depOk d = true := by
 unfold depE at h
 cases e : depOk d
 ·
  rw [e] at h; cases h
 ·
  rfl
end
theorem all_to {α : Type} {l : List α} {p : α → Bool} (h : ∀ i x, i < l.length → l[i]? = some x → p x = true) : l.all p = true :=
 List.all_eq_true.2 fun x hx => by
  obtain ⟨i, hi, e⟩ := List.getElem_of_mem hx
  exact h i x hi (by rw [List.getElem?_eq_getElem hi, e])
theorem all_no {α : Type} {l : List α} {p : α → Bool} {i : Nat} {x : α} (hx : l[i]? = some x) (h : p x = false) : l.all p = false := by
 cases e : l.all p
 ·
  rfl
 ·
  have := List.all_eq_true.1 e x (List.mem_of_getElem? hx)
  rw [h] at this; cases this
theorem map_at {α β : Type} {f : α → β} {l : List α} {k : Nat} {x : α} (h : l[k]? = some x) : (l.map f)[k]? = some (f x) := by rw [List.getElem?_map, h]; rfl
def Upto {α : Type} (l : List α) (p : α → Bool) (k : Nat) : Prop := ∀ i x, i < k → l[i]? = some x → p x = true
theorem upto_zero {α : Type} {l : List α} {p : α → Bool} : Upto l p 0 := fun i x hi => by omega
theorem upto_succ {α : Type} {l : List α} {p : α → Bool} {k : Nat} {x : α} (h : Upto l p k) (hx : l[k]? = some x) (hp : p x = true) : Upto l p (k + 1) := fun i y hi hy => by
 by_cases e : i = k
 ·
  subst e
  rw [hx] at hy
  rw [← Option.some.inj hy]; exact hp
 ·
  exact h i y (by omega) hy
theorem C_balls_within (n lo hi : Int) (w : World) : C0 Tryz.prog 63 [.int .i64 n, .int .i64 lo, .int .i64 hi] w (.bool (wi n lo hi)) := by
 refine ⟨en Tryz.func63 Tryz.ntmps63 (St.init w) (h := fun F => ?_)⟩
 refine sr ?_
 refine ww ?_
 refine nr ?_
 iterate 4 refine ww ?_
 apply brAnd 4 10 14 (by exact rfl)
 ·
  intro hb0
  iterate 3 refine uw ?_
  refine ww ?_
  exact mg (by repeat (first | exact trivial | refine ⟨rfl, ?_⟩ | refine ⟨by rw [hb0]; rfl, ?_⟩)) slz_
 ·
  intro hb0
  repeat (first | refine uz ?_ | refine kz ?_ | refine wz ?_)
  exact mg (by repeat (first | exact trivial | refine ⟨rfl, ?_⟩ | refine ⟨by rw [hb0]; rfl, ?_⟩)) slz_
 refine ww ?_
 refine nq ?_
 refine rtn ?_
 refine q_ret (hR := ?_)
 exact fun w hS => ⟨rfl, hS.sub slz_⟩
theorem C_ref9_within (n lo hi : Int) (w : World) : C0 Tryz.prog 20 [.int .i64 n, .int .i64 lo, .int .i64 hi] w (.bool (wi n lo hi)) := by
 refine ⟨en Tryz.func20 Tryz.ntmps20 (St.init w) (h := fun F => ?_)⟩
 refine sr ?_
 refine ww ?_
 refine nr ?_
 iterate 4 refine ww ?_
 apply brAnd 4 10 14 (by exact rfl)
 ·
  intro hb0
  iterate 3 refine uw ?_
  refine ww ?_
  exact mg (by repeat (first | exact trivial | refine ⟨rfl, ?_⟩ | refine ⟨by rw [hb0]; rfl, ?_⟩)) slz_
 ·
  intro hb0
  repeat (first | refine uz ?_ | refine kz ?_ | refine wz ?_)
  exact mg (by repeat (first | exact trivial | refine ⟨rfl, ?_⟩ | refine ⟨by rw [hb0]; rfl, ?_⟩)) slz_
 refine ww ?_
 refine nq ?_
 refine rtn ?_
 refine q_ret (hR := ?_)
 exact fun w hS => ⟨by first | rfl | (rw [Bool.and_comm]; rfl), hS.sub slz_⟩
theorem C_Check1 (n : Int) (w : World) : C0 Tryz.prog 97 [.int .i64 n] w (.bool (wi n 0 99999)) := by
 refine ⟨en Tryz.func97 Tryz.ntmps97 (St.init w) (h := fun F => ?_)⟩
 refine sr ?_
 refine ww ?_
 refine nr ?_
 refine ww ?_
 refine cl0 (hc := fun w hS => C_balls_within _ _ _ w) (h := ?_)
 refine ww ?_
 refine nq ?_
 refine rtn ?_
 refine q_ret (hR := ?_)
 exact fun w hS => ⟨rfl, hS.sub slz_⟩
theorem T_Check2 (n : Int) (a0 : Nat) : Tr Tryz.prog 99 [.int .i64 n, .pointer (some ⟨a0, 0, none⟩)] [.blk a0 144 [.func (.func 97) #[] #[]]] (fun _ : Unit => True) (fun _ => .bool (!wi n 0 99999)) (fun _ => [.blk a0 144 [.func (.func 97) #[] #[]]]) := by
 refine ⟨fun w0 w R hst => ?_⟩
 refine en Tryz.func99 Tryz.ntmps99 hst (h := fun F => ?_)
 refine sr ?_
 refine ww ?_
 refine nr ?_
 iterate 2 refine ww ?_
 refine clfT inferInstance (fi := []) (cap := []) (by exact rfl) (by repeat (first | exact Evs.nil | (apply Evs.cons; exact rfl))) (C0.tr [] (C_Check1 n)) rfl Spl.nil (h := fun _ _ => ?_)
 iterate 2 refine ww ?_
 refine nq ?_
 refine rtn ?_
 refine q_ret (hR := ?_)
 exact fun w hS => ⟨(), trivial, rfl, hS.sub slz_⟩
theorem T_IndexIntB {E : Ent} {A : Option Addr} {n c : Nat} {ws : List Int} (hE : ∀ w, E.ok w → Rd w A 1 n (encI ws)) {g : FuncId} (hg : FnOk Tryz.prog g) (fi cap : List Value) (Lp : List Ent) (p : Int → Bool) (hn : n ≤ 9223372036854775807) (hlen : ws.length = n)
  (hp : ∀ x ∈ ws, Tr Tryz.prog g (fi ++ [.int .i64 x] ++ cap) Lp (fun _ : Unit => True) (fun _ => .bool (p x)) (fun _ => Lp)) :
  Tr Tryz.prog 121 [.slice A n c, .func (.func g) fi.toArray cap.toArray] (E :: Lp) (Fst (pAt ws p) n) (fun j => .int .i64 j) (fun _ => E :: Lp) := by
 refine ⟨fun w0 w R hst => ?_⟩
 refine en Tryz.func121 Tryz.ntmps121 hst (h := fun F => ?_)
 refine sr ?_
 refine ww ?_
 refine nq ?_
 refine sq ?_
 refine sr ?_
 iterate 3 refine ww ?_
 refine nq ?_
 refine bk ?_
 refine lp (X := Nat) (I := fun k => k ≤ n ∧ ∀ i, i < k → pAt ws p i = false) (le := fun k => [(0, .slice A n c), (1, .func (.func g) fi.toArray cap.toArray), (7, .int .i64 n), (8, .int .i64 k)]) (Le := fun _ => E :: (Lp ++ R)) (μ := fun k => n - k) 0 ⟨by omega, fun i hi => by omega⟩ sbz_ (SubL.refl _) (fun k hk => ?_)
 obtain ⟨hk, hall⟩ := hk
 refine sr ?_
 refine ww ?_
 refine nq ?_
 refine sq ?_
 refine czz (fun h0 => ?_) fun h0 => ?_
 ·
  have hkn : k < n := by simp only [decide_eq_true_eq] at h0; omega
  obtain ⟨x, hx⟩ : ∃ x, ws[k]? = some x := ⟨_, List.getElem?_eq_getElem (by omega)⟩
  have hxe := encI_at hx
  refine skp ?_
  refine q_seq ?_
  refine sq ?_
  refine bk ?_
  refine sr ?_
  iterate 2 refine ww ?_
  refine nr ?_
  iterate 3 refine ww ?_
  refine wy (ix (A := A) (m := n) (hr := Rds.any hE)) ?_
  refine wy (ldE (A := A) (hr := Rds.any hE) (hk := hxe)) ?_
  refine clfT hg (fi := fi) (cap := cap) (by exact rfl) (by repeat (first | exact Evs.nil | (apply Evs.cons; exact rfl))) (hp x (List.mem_of_getElem? hx)) rfl (Spl.thr (Spl.app _ _)) (h := fun _ _ => ?_)
  refine WL.subL (SubL.cons (At.app _ _) (SubL.refl _)) ?_
  refine nq ?_
  refine czz (fun h1 => ?_) fun h1 => ?_
  ·
   refine sr ?_
   iterate 2 refine ww ?_
   refine nq ?_
   refine rtn ?_
   refine q_blk_ret ?_
   iterate 2 refine q_then_ret ?_
   refine q_blk_ret ?_
   refine q_then_ret ?_
   refine q_ret (hR := ?_)
   exact fun w hS => ⟨_, .inl ⟨k, hkn, rfl, by rw [pAt_eq hx]; assumption, hall⟩, rfl, hS⟩
  ·
   refine skp ?_
   refine q_blk_norm ?_
   refine q_seq ?_
   refine rg ?_
   iterate 2 refine ww ?_
   refine nl ?_
   refine rn (k + 1) ⟨by omega, fun i hi => ?_⟩ (by omega) sbz_ (SubL.refl _)
   rcases Nat.lt_succ_iff_lt_or_eq.1 hi with h | rfl
   ·
    exact hall i h
   ·
    rw [pAt_eq hx]; assumption
 ·
  have hkn : k = n := by simp only [decide_eq_false_iff_not] at h0; omega
  refine et ?_
  iterate 2 refine q_then_exit ?_
  refine q_blk_hit ?_
  refine q_seq ?_
  refine sr ?_
  refine ww ?_
  refine nq ?_
  refine rtn ?_
  refine q_ret (hR := ?_)
  exact fun w hS => ⟨_, .inr ⟨rfl, by subst hkn; exact hall⟩, rfl, hS⟩
theorem T_ContainsIntB {E : Ent} {A : Option Addr} {n c : Nat} {ws : List Int} (hE : ∀ w, E.ok w → Rd w A 1 n (encI ws)) {g : FuncId} (hg : FnOk Tryz.prog g) (fi cap : List Value) (Lp : List Ent) (p : Int → Bool) (hn : n ≤ 9223372036854775807) (hlen : ws.length = n)
  (hp : ∀ x ∈ ws, Tr Tryz.prog g (fi ++ [.int .i64 x] ++ cap) Lp (fun _ : Unit => True) (fun _ => .bool (p x)) (fun _ => Lp)) :
  Tr Tryz.prog 98 [.slice A n c, .func (.func g) fi.toArray cap.toArray] (E :: Lp) (fun _ : Unit => True) (fun _ => .bool (ws.any p)) (fun _ => E :: Lp) := by
 refine ⟨fun w0 w R hst => ?_⟩
 refine en Tryz.func98 Tryz.ntmps98 hst (h := fun F => ?_)
 refine sr ?_
 refine ww ?_
 refine nr ?_
 iterate 2 refine ww ?_
 refine clT (hc := T_IndexIntB (c := c) hE hg fi cap Lp p hn hlen hp) (hs := Spl.cons .here (Spl.app _ _)) (h := fun x0 hx0 => ?_)
 iterate 2 refine ww ?_
 refine nq ?_
 refine rtn ?_
 refine q_ret (hR := ?_)
 exact fun w hS => ⟨(), trivial, by simp only [resV, hx0.any]; rw [← hlen, pAt_any], hS⟩
set_option maxRecDepth 100000 in
set_option maxHeartbeats 2000000 in
theorem C_balls_Check (d : Dp) (a : DA) (w : World) (h : DpR w d a) : C0 Tryz.prog 62 [d.val a] w (.int .i64 (depE d)) := by
 have hsc := h.sc
 have hfc := h.fc
 have hcc := h.cc
 refine ⟨en Tryz.func62 Tryz.ntmps62 ((((St.init w).share (e := .ro a.sA 1 d.st.length (encI d.st)) h.s rfl rfl rfl).share (e := .ro a.fA 16 d.fx.length (d.fx.map Fx.enc)) h.f rfl rfl rfl).share (e := .ro a.cA 3 d.cr.length (d.cr.map Cx.enc)) h.c rfl rfl rfl) (h := fun F => ?_)⟩
 refine sr ?_
 refine bxA (h := fun b0 => ?_)
 refine ww ?_
 refine nr ?_
 refine al (h := fun bf => ?_)
 first | refine st (h := ?_) | refine stE (h := ?_)
 refine nq ?_
 refine sq ?_
 refine sr ?_
 iterate 9 refine ww ?_
 refine bs (h := fun b2 => ?_)
 iterate 2 refine ww ?_
 refine nq ?_
 refine bk ?_
 refine lp (X := Nat) (I := fun k => k ≤ 3 ∧ Upto [d.each, d.tow, d.fra] (fun n => wi n 0 20) k) (le := fun k => [(1, .pointer (some ⟨b0, 0, none⟩)), (3, .pointer (some ⟨bf, 0, none⟩)), (19, .slice (some ⟨b2, 0, none⟩) 3 3), (20, .int .i64 3), (21, .int .i64 k)]) (Le := fun _ => [.own (some ⟨b2, 0, none⟩) 3 3 1 3 (encI [d.each, d.tow, d.fra]), .blk bf 144 [.func (.func 97) #[] #[]], .blk b0 28 (d.cells a), .ro a.sA 1 d.st.length (encI d.st), .ro a.fA 16 d.fx.length (d.fx.map Fx.enc), .ro a.cA 3 d.cr.length (d.cr.map Cx.enc)]) (μ := fun k => 3 - k) 0 ⟨Nat.zero_le _, upto_zero⟩ sbz_ slz_ (fun k hk => ?_)
 obtain ⟨hk0, hku⟩ := hk
 refine sr ?_
 refine ww ?_
 refine nq ?_
 refine sq ?_
 refine czz (fun h0 => ?_) fun h0 => ?_
 ·
  have hk3 : k < 3 := by have := of_decide_eq_true h0; omega
  obtain ⟨m, hm⟩ : ∃ m, [d.each, d.tow, d.fra][k]? = some m := ⟨_, List.getElem?_eq_getElem (by simpa using hk3)⟩
  have hne := encI_at hm
  refine skp ?_
  refine q_seq ?_
  refine sq ?_
  refine bk ?_
  refine sr ?_
  refine wy (ix (A := some ⟨b2, 0, none⟩) (m := 3)) ?_
  refine wy (ldE (A := some ⟨b2, 0, none⟩) (hk := hne)) ?_
  refine ww ?_
  refine nr ?_
  refine ww ?_
  refine cl0 (hc := fun w hS => C_balls_within _ _ _ w) (h := ?_)
  refine ww ?_
  refine nq ?_
  refine czz (fun h1 => ?_) fun h1 => ?_
  ·
   have hE : depE d = 90 := dep_kit (by
    have hm' : wi m 0 20 = false := by simpa using h1
    have hall : ([d.each, d.tow, d.fra].all fun n => wi n 0 20) = false := all_no hm hm'
    rw [kitB, ← hall]
    simp only [List.all_cons, List.all_nil, Bool.and_true, Bool.and_assoc])
   refine sr ?_
   refine ww ?_
   refine nq ?_
   refine rtn ?_
   refine q_blk_ret ?_
   iterate 2 refine q_then_ret ?_
   refine q_blk_ret ?_
   refine q_then_ret ?_
   refine q_ret (hR := ?_)
   rw [hE]
   exact fun w hS => ⟨rfl, hS.sub slz_⟩
  ·
   have hmk : wi m 0 20 = true := by simpa using h1
   have hkn := upto_succ hku hm hmk
   refine skp ?_
   refine q_blk_norm ?_
   refine q_seq ?_
   refine rg ?_
   iterate 2 refine ww ?_
   refine nl ?_
   refine rn (x := k) (k + 1) ⟨by omega, hkn⟩ (by omega) sbz_ slz_
 ·
  have hk3 : k = 3 := by have := of_decide_eq_false h0; omega
  have hkit : kitB d = true := by
   rw [hk3] at hku
   have k0 : wi d.each 0 20 = true := hku 0 d.each (by omega) rfl
   have k1 : wi d.tow 0 20 = true := hku 1 d.tow (by omega) rfl
   have k2 : wi d.fra 0 20 = true := hku 2 d.fra (by omega) rfl
   rw [kitB, k0, k1, k2]; rfl
  refine et ?_
  iterate 2 refine q_then_exit ?_
  refine q_blk_hit ?_
  refine q_seq ?_
  refine sq ?_
  refine sr ?_
  iterate 5 refine ww ?_
  apply brOr 5 33 38 (by exact rfl)
  ·
   intro hb2
   iterate 4 refine uw ?_
   refine ww ?_
   exact mg (by repeat (first | exact trivial | refine ⟨rfl, ?_⟩ | refine ⟨by rw [hb2]; rfl, ?_⟩)) slz_
  ·
   intro hb2
   repeat (first | refine uz ?_ | refine kz ?_ | refine wz ?_)
   exact mg (by repeat (first | exact trivial | refine ⟨rfl, ?_⟩ | refine ⟨by rw [hb2]; rfl, ?_⟩)) slz_
  refine ww ?_
  apply brOr 5 39 44 (by exact rfl)
  ·
   intro hb3
   iterate 4 refine uw ?_
   refine ww ?_
   exact mg (by repeat (first | exact trivial | refine ⟨rfl, ?_⟩ | refine ⟨by rw [hb3]; rfl, ?_⟩)) slz_
  ·
   intro hb3
   repeat (first | refine uz ?_ | refine kz ?_ | refine wz ?_)
   exact mg (by repeat (first | exact trivial | refine ⟨rfl, ?_⟩ | refine ⟨by rw [hb3]; rfl, ?_⟩)) slz_
  refine nq ?_
  refine czz (fun h4 => ?_) fun h4 => ?_
  ·
   have hE : depE d = 90 := dep_len (by rw [lenB, h4]; rfl)
   refine sr ?_
   refine ww ?_
   refine nq ?_
   refine rtn ?_
   refine q_then_ret ?_
   refine q_ret (hR := ?_)
   rw [hE]
   exact fun w hS => ⟨rfl, hS.sub slz_⟩
  ·
   have hln : lenB d = true := by rw [lenB, h4]; rfl
   simp only [Bool.or_eq_false_iff, Bool.not_eq_false', decide_eq_true_eq, decide_eq_false_iff_not] at h4
   refine skp ?_
   refine q_seq ?_
   refine sq ?_
   refine sr ?_
   iterate 3 refine ww ?_
   refine clT (hc := T_ContainsIntB (E := .ro a.sA 1 d.st.length (encI d.st)) (ws := d.st) (c := a.sc) (fun w hw => hw) inferInstance [] [.pointer (some ⟨bf, 0, none⟩)] [.blk bf 144 [.func (.func 97) #[] #[]]] (fun n => !wi n 0 99999) h.sc rfl (fun x _ => T_Check2 x bf)) (h := fun x48 _ => ?_)
   refine nq ?_
   refine czz (fun h5 => ?_) fun h5 => ?_
   ·
    have hE : depE d = 90 := dep_st (by
     obtain ⟨n, hn, hp⟩ := List.any_eq_true.1 h5
     obtain ⟨i, hi, e⟩ := List.getElem_of_mem hn
     exact all_no (i := i) (x := n) (by rw [List.getElem?_eq_getElem hi, e]) (by simpa using hp))
    refine sr ?_
    refine ww ?_
    refine nq ?_
    refine rtn ?_
    refine q_then_ret ?_
    refine q_ret (hR := ?_)
    rw [hE]
    exact fun w hS => ⟨rfl, hS.sub slz_⟩
   ·
    have hst : stB d = true := List.all_eq_true.2 fun n hn => by
     have := List.any_eq_false.1 h5 n hn
     simpa using this
    refine skp ?_
    refine q_seq ?_
    refine sq ?_
    refine sr ?_
    iterate 4 refine ww ?_
    refine nq ?_
    refine bk ?_
    refine lp (X := Nat) (I := fun j => j ≤ d.fx.length ∧ Upto d.fx fxOk j) (le := fun j => [(1, .pointer (some ⟨b0, 0, none⟩)), (3, .pointer (some ⟨bf, 0, none⟩)), (50, .slice a.fA d.fx.length a.fc), (51, .int .i64 d.fx.length), (52, .int .i64 j)]) (Le := fun _ => [.blk bf 144 [.func (.func 97) #[] #[]], .blk b0 28 (d.cells a), .ro a.sA 1 d.st.length (encI d.st), .ro a.fA 16 d.fx.length (d.fx.map Fx.enc), .ro a.cA 3 d.cr.length (d.cr.map Cx.enc)]) (μ := fun j => d.fx.length - j) 0 ⟨Nat.zero_le _, upto_zero⟩ sbz_ slz_ (fun j hj => ?_)
    obtain ⟨hj0, hju⟩ := hj
    refine sr ?_
    refine ww ?_
    refine nq ?_
    refine sq ?_
    refine czz (fun h6 => ?_) fun h6 => ?_
    ·
     have hkn2 : j < d.fx.length := by have := of_decide_eq_true h6; omega
     obtain ⟨x, hx⟩ : ∃ x, d.fx[j]? = some x := ⟨_, List.getElem?_eq_getElem hkn2⟩
     refine skp ?_
     refine q_seq ?_
     refine sq ?_
     refine bk ?_
     refine sr ?_
     refine wy (ix (A := a.fA) (m := d.fx.length)) ?_
     refine wy (ldEW (A := a.fA) (hk := map_at hx)) ?_
     refine al (h := fun bx => ?_)
     first | refine stA (h := ?_) | refine stEA (h := ?_)
     refine nr ?_
     iterate 2 refine ww ?_
     refine cl0 (hc := fun w hS => C_balls_within _ _ _ w) (h := ?_)
     iterate 2 refine ww ?_
     apply brOr 7 60 67 (by exact rfl)
     ·
      intro hb7
      iterate 4 refine uw ?_
      refine uz ?_
      refine cl0 (hc := fun w hS => C_balls_check x.f x.b x.A x.b.st.length x.c w ((hS.old (h.x x (List.mem_of_getElem? hx)).r).get) (by have h1 := (h.x x (List.mem_of_getElem? hx)).n; have h2 := (h.x x (List.mem_of_getElem? hx)).c; omega)) (h := ?_)
      refine uw ?_
      refine ww ?_
      exact mg (by repeat (first | exact trivial | refine ⟨rfl, ?_⟩ | refine ⟨by rw [hb7]; rfl, ?_⟩)) slz_
     ·
      intro hb7
      repeat (first | refine uz ?_ | refine kz ?_ | refine wz ?_)
      exact mg (by repeat (first | exact trivial | refine ⟨rfl, ?_⟩ | refine ⟨by rw [hb7]; rfl, ?_⟩)) slz_
     refine nq ?_
     refine czz (fun h8 => ?_) fun h8 => ?_
     ·
      have hE : depE d = 90 := dep_fx (all_no hx (by rw [fxOk, h8]; rfl))
      refine sr ?_
      refine ww ?_
      refine nq ?_
      refine rtn ?_
      refine q_blk_ret ?_
      iterate 2 refine q_then_ret ?_
      refine q_blk_ret ?_
      refine q_then_ret ?_
      refine q_ret (hR := ?_)
      rw [hE]
      exact fun w hS => ⟨rfl, hS.sub slz_⟩
     ·
      have hjn := upto_succ hju hx (by rw [fxOk, h8]; rfl)
      refine skp ?_
      refine q_blk_norm ?_
      refine q_seq ?_
      refine rg ?_
      iterate 2 refine ww ?_
      refine nl ?_
      refine rn (x := j) (j + 1) ⟨hkn2, hjn⟩ (by omega) sbz_ slz_
    ·
     have hkn2 : j = d.fx.length := by have := of_decide_eq_false h6; omega
     have hfx : fxB d = true := all_to fun i x hi => hju i x (by omega)
     refine et ?_
     iterate 2 refine q_then_exit ?_
     refine q_blk_hit ?_
     refine q_seq ?_
     refine sq ?_
     refine sr ?_
     iterate 4 refine ww ?_
     refine nq ?_
     refine bk ?_
     refine lp (X := Nat) (I := fun i => i ≤ d.cr.length ∧ Upto d.cr crOk i) (le := fun i => [(1, .pointer (some ⟨b0, 0, none⟩)), (3, .pointer (some ⟨bf, 0, none⟩)), (70, .slice a.cA d.cr.length a.cc), (71, .int .i64 d.cr.length), (72, .int .i64 i)]) (Le := fun _ => [.blk bf 144 [.func (.func 97) #[] #[]], .blk b0 28 (d.cells a), .ro a.sA 1 d.st.length (encI d.st), .ro a.fA 16 d.fx.length (d.fx.map Fx.enc), .ro a.cA 3 d.cr.length (d.cr.map Cx.enc)]) (μ := fun i => d.cr.length - i) 0 ⟨Nat.zero_le _, upto_zero⟩ sbz_ slz_ (fun i hi => ?_)
     obtain ⟨hi0, hiu⟩ := hi
     refine sr ?_
     refine ww ?_
     refine nq ?_
     refine sq ?_
     refine czz (fun h9 => ?_) fun h9 => ?_
     ·
      have hkn3 : i < d.cr.length := by have := of_decide_eq_true h9; omega
      obtain ⟨y, hc⟩ : ∃ y, d.cr[i]? = some y := ⟨_, List.getElem?_eq_getElem hkn3⟩
      refine skp ?_
      refine q_seq ?_
      refine sq ?_
      refine bk ?_
      refine sr ?_
      refine wy (ix (A := a.cA) (m := d.cr.length)) ?_
      refine wy (ldEW (A := a.cA) (hk := map_at hc)) ?_
      refine al (h := fun bc => ?_)
      first | refine stA (h := ?_) | refine stEA (h := ?_)
      refine nr ?_
      iterate 2 refine ww ?_
      refine cl0 (hc := fun w hS => C_balls_within _ _ _ w) (h := ?_)
      iterate 2 refine ww ?_
      apply brOr 5 80 85 (by exact rfl)
      ·
       intro hb10
       iterate 2 refine uw ?_
       refine uz ?_
       refine cl0 (hc := fun w hS => C_balls_within _ _ _ w) (h := ?_)
       refine uw ?_
       refine ww ?_
       exact mg (by repeat (first | exact trivial | refine ⟨rfl, ?_⟩ | refine ⟨by rw [hb10]; rfl, ?_⟩)) slz_
      ·
       intro hb10
       repeat (first | refine uz ?_ | refine kz ?_ | refine wz ?_)
       exact mg (by repeat (first | exact trivial | refine ⟨rfl, ?_⟩ | refine ⟨by rw [hb10]; rfl, ?_⟩)) slz_
      refine ww ?_
      apply brOr 6 86 92 (by exact rfl)
      ·
       intro hb11
       iterate 3 refine uw ?_
       refine uz ?_
       refine clf0 (f := 97) (fi := []) (cap := []) (hc := fun w hS => C_Check1 y.count w) (h := ?_)
       refine uw ?_
       refine ww ?_
       exact mg (by repeat (first | exact trivial | refine ⟨rfl, ?_⟩ | refine ⟨by rw [hb11]; rfl, ?_⟩)) slz_
      ·
       intro hb11
       repeat (first | refine uz ?_ | refine kz ?_ | refine wz ?_)
       exact mg (by repeat (first | exact trivial | refine ⟨rfl, ?_⟩ | refine ⟨by rw [hb11]; rfl, ?_⟩)) slz_
      refine nq ?_
      refine czz (fun h12 => ?_) fun h12 => ?_
      ·
       have hE : depE d = 90 := dep_cr (all_no hc (by rw [crOk, h12]; rfl))
       refine sr ?_
       refine ww ?_
       refine nq ?_
       refine rtn ?_
       refine q_blk_ret ?_
       iterate 2 refine q_then_ret ?_
       refine q_blk_ret ?_
       refine q_then_ret ?_
       refine q_ret (hR := ?_)
       rw [hE]
       exact fun w hS => ⟨rfl, hS.sub slz_⟩
      ·
       have hin := upto_succ hiu hc (by rw [crOk, h12]; rfl)
       refine skp ?_
       refine q_blk_norm ?_
       refine q_seq ?_
       refine rg ?_
       iterate 2 refine ww ?_
       refine nl ?_
       refine rn (x := i) (i + 1) ⟨hkn3, hin⟩ (by omega) sbz_ slz_
     ·
      have hkn3 : i = d.cr.length := by have := of_decide_eq_false h9; omega
      have hcr : crB d = true := all_to fun i' x hi' => hiu i' x (by omega)
      have hE := dep_yes hkit hln hst hfx hcr
      refine et ?_
      iterate 2 refine q_then_exit ?_
      refine q_blk_hit ?_
      refine q_seq ?_
      refine sr ?_
      refine ww ?_
      refine nq ?_
      refine rtn ?_
      refine q_ret (hR := ?_)
      rw [hE]
      exact fun w hS => ⟨rfl, hS.sub slz_⟩
theorem DpR.old {w0 w : World} {L : List Ent} {d : Dp} {a : DA} (h : DpR w0 d a) (hS : St w0 w L) : DpR w d a :=
 ⟨(hS.old h.s).get, (hS.old h.f).get, (hS.old h.c).get, fun y hy => ⟨(hS.old (h.x y hy).r).get, (h.x y hy).n, (h.x y hy).c⟩, h.sc, h.fc, h.cc⟩
end Go.Proofs.YtpmmgljndceplaaGreat

namespace Go.Proofs.YtpmmgljndceplaaGreat
open Go Go.RowKit

abbrev fixtureSp : List Sp := [.int .i64, .int .i64, .int .i64, .bool, .int .i64, .int .i64, .int .i64, .int .i64, .int .i64, .int .i64, .bool, .sl i2, .int .i64, .int .i64, .int .i64, .int .i64]
abbrev crateSp : List Sp := [.int .i64, .int .i64, .int .i64]
abbrev depotSp : List Sp := [.int .i64, .int .i64, .int .i64, .sl [.int .i64], .sl fixtureSp, .sl crateSp]
theorem crate_cells {w : World} {cs : List Value} (h : Mts w crateSp cs) : ∃ c : Cx, cs = c.enc := by
 obtain ⟨a1, cs, rfl, _, h⟩ := Mts.int_inv h
 obtain ⟨a2, cs, rfl, _, h⟩ := h.int_inv
 obtain ⟨a3, cs, rfl, _, h⟩ := h.int_inv
 rw [h.nil_inv]
 exact ⟨⟨a1, a2, a3⟩, rfl⟩
theorem fixture_cells {w : World} {cs : List Value} (h : Mts w fixtureSp cs) : ∃ x : Fx, cs = x.enc ∧ x.ok w := by
 obtain ⟨a0, cs, rfl, _, h⟩ := Mts.int_inv h
 obtain ⟨a1, cs, rfl, _, h⟩ := h.int_inv
 obtain ⟨a2, cs, rfl, _, h⟩ := h.int_inv
 obtain ⟨a3, cs, rfl, h3⟩ := h.bool_inv
 obtain ⟨a4, cs, rfl, _, h⟩ := h3.int_inv
 obtain ⟨a5, cs, rfl, _, h⟩ := h.int_inv
 obtain ⟨a6, cs, rfl, _, h⟩ := h.int_inv
 obtain ⟨a7, cs, rfl, _, h⟩ := h.int_inv
 obtain ⟨a8, cs, rfl, _, h⟩ := h.int_inv
 obtain ⟨a9, cs, rfl, _, h⟩ := h.int_inv
 obtain ⟨a10, cs, rfl, h10⟩ := h.bool_inv
 obtain ⟨A, n, c, xs, cs, rfl, hr, hn, hx, h⟩ := h10.sl_invc
 obtain ⟨b1, cs, rfl, _, h⟩ := h.int_inv
 obtain ⟨b2, cs, rfl, _, h⟩ := h.int_inv
 obtain ⟨b3, cs, rfl, _, h⟩ := h.int_inv
 obtain ⟨b4, cs, rfl, _, h⟩ := h.int_inv
 rw [h.nil_inv]
 obtain ⟨ys, rfl⟩ := map_of (f := fun p : Pr => [.int .i64 p.1, .int .i64 p.2]) (xs := xs) fun x hxm => i2_open (hx x hxm)
 have hl : ys.length = n := by have := hr.len; simpa using this
 subst hl
 exact ⟨⟨a0, ⟨a1, a2, a3, a4, a5, a6, a7, a8, a9, a10⟩, ⟨ys, (b1, b2), (b3, b4)⟩, A, c⟩, rfl, hr, hn.1, hn.2⟩
theorem map_ofP {α : Type} {f : α → List Value} {p : α → Prop} : ∀ {xs : List (List Value)}, (∀ x ∈ xs, ∃ a, x = f a ∧ p a) → ∃ ys : List α, xs = ys.map f ∧ ∀ y ∈ ys, p y
 | [], _ => ⟨[], rfl, fun y hy => by cases hy⟩
 | x :: xs, h => by
  obtain ⟨a, rfl, ha⟩ := h x (by simp)
  obtain ⟨ys, rfl, hy⟩ := map_ofP (xs := xs) fun y hy => h y (by simp [hy])
  exact ⟨a :: ys, rfl, fun y hm => by
   rcases List.mem_cons.1 hm with rfl | hm
   ·
    exact ha
   ·
    exact hy y hm⟩
theorem depot_open {w : World} {cs : List Value} (h : Mts w depotSp cs) : ∃ (d : Dp) (a : DA), Value.agg cs.toArray = d.val a ∧ DpR w d a := by
 obtain ⟨k1, cs, rfl, _, h⟩ := Mts.int_inv h
 obtain ⟨k2, cs, rfl, _, h⟩ := h.int_inv
 obtain ⟨k3, cs, rfl, _, h⟩ := h.int_inv
 obtain ⟨A, n, c, xs, cs, rfl, hr, hn, hx, h⟩ := h.sl_invc
 obtain ⟨B, m, d, ys, cs, rfl, hr2, hm, hy, h⟩ := h.sl_invc
 obtain ⟨C, k, e, zs, cs, rfl, hr3, hk, hz, h⟩ := h.sl_invc
 rw [h.nil_inv]
 obtain ⟨xs, rfl⟩ := map_of (f := fun x : Int => [.int .i64 x]) (xs := xs) fun x hxm => by
  obtain ⟨a, cs, rfl, _, h⟩ := (hx x hxm).int_inv
  rw [h.nil_inv]
  exact ⟨a, rfl⟩
 obtain ⟨ys, rfl, hys⟩ := map_ofP (f := Fx.enc) (p := fun x => x.ok w) (xs := ys) fun x hxm => fixture_cells (hy x hxm)
 obtain ⟨zs, rfl⟩ := map_of (f := Cx.enc) (xs := zs) fun x hxm => crate_cells (hz x hxm)
 have hl : xs.length = n := by have := hr.len; simpa using this
 have hl2 : ys.length = m := by have := hr2.len; simpa using this
 have hl3 : zs.length = k := by have := hr3.len; simpa using this
 subst hl hl2 hl3
 exact ⟨⟨k1, k2, k3, xs, ys, zs⟩, ⟨A, B, C, c, d, e⟩, rfl, hr, hr2, hr3, hys, by show xs.length ≤ _; omega, by show ys.length ≤ _; omega, by show zs.length ≤ _; omega⟩
end Go.Proofs.YtpmmgljndceplaaGreat

namespace Go.Proofs.YtpmmgljndceplaaGreat
open Go Go.RowKit

structure Spot where
 (first : Int) (st : List Pr) (g p : Pr)
theorem Spot.ext' {a b : Spot} (h1 : a.first = b.first) (h2 : a.st = b.st) (h3 : a.g = b.g) (h4 : a.p = b.p) : a = b := by
 cases a; cases b; cases h1; cases h2; cases h3; cases h4; rfl
instance : DecidableEq Spot := fun a b => decidable_of_iff (a.first = b.first ∧ a.st = b.st ∧ a.g = b.g ∧ a.p = b.p) ⟨fun h => Spot.ext' h.1 h.2.1 h.2.2.1 h.2.2.2, fun h => by subst h; exact ⟨rfl, rfl, rfl, rfl⟩⟩
def spotOf (m : MS) : Spot := ⟨m.first, m.st, m.g, m.p⟩
def ldS (p : Pr) (side l b : Int) : Bool := bif decide (side = 1) then decide (l ≤ p.2) && decide (b ≤ p.2 - p.1) else decide (l ≤ p.1) && decide (b ≤ p.1 - p.2)
def topS (s : Spot) : Int := max (wonV s.st).1 (wonV s.st).2
def tieS (f : Fmt) (s : Spot) : Bool := brksV (setV f (wonV s.st)) s.g
def leastS (f : Fmt) (s : Spot) : Int := bif tieS f s then (setV f (wonV s.st)).2 else 4
def byS (f : Fmt) (s : Spot) : Int := bif tieS f s then 2 else bif f.noAd then 1 else 2
def gotS (f : Fmt) (s : Spot) (side : Int) : Bool := ldS (addV s.p side) side (leastS f s) (byS f s)
def endS' (f : Fmt) (s : Spot) (side : Int) : Bool := tieS f s || ldS (addV s.g side) side f.games 2
def stepS (f : Fmt) (s : Spot) (side : Int) : Spot :=
 bif gotS f s side then (bif endS' f s side then ⟨s.first, s.st ++ [addV s.g side], (0, 0), (0, 0)⟩ else ⟨s.first, s.st, addV s.g side, (0, 0)⟩) else ⟨s.first, s.st, s.g, addV s.p side⟩
def nxtS (f : Fmt) (s : Spot) (side : Int) : Option Spot := bif decide (topS s = f.sets) then none else some (stepS f s side)
def sumP (l : List Pr) : Int := (l.map fun p => p.1 + p.2).sum
def cntS (s : Spot) : Int := sumP s.st + (s.g.1 + s.g.2)
def winS (f : Fmt) (s : Spot) : Int := bif decide ((wonV s.st).1 = f.sets) then 0 else bif decide ((wonV s.st).2 = f.sets) then 1 else -1
def srvS (f : Fmt) (s : Spot) : Int := bif decide (topS s = f.sets) then -1 else servR f s.first (cntS s).toNat (tieS f s) (s.p.1 + s.p.2)
structure Rch (m : MS) : Prop where
 inv : m.Inv ∨ (m.Done ∧ max (wonV m.st).1 (wonV m.st).2 = m.f.sets ∧ m.winner = winS m.f (spotOf m))
 cnt : (m.gs.length : Int) = cntS (spotOf m)

theorem lds_eq {p : Pr} {side l b : Int} (hs : side = 0 ∨ side = 1) (hb : 1 ≤ b) (h : leadsV p l b = -1 ∨ leadsV p l b = side) : ldS p side l b = decide (leadsV p l b = side) := by
 rcases hs with rfl | rfl
 ·
  rw [ldS, decide_eq_false (by decide), cond_false, Bool.eq_iff_iff, Bool.and_eq_true, decide_eq_true_eq, decide_eq_true_eq, decide_eq_true_eq, leads_0]
 ·
  rw [ldS, decide_eq_true rfl, cond_true, Bool.eq_iff_iff, Bool.and_eq_true, decide_eq_true_eq, decide_eq_true_eq, decide_eq_true_eq, leads_1 hb]
theorem sumP_app (l : List Pr) (p : Pr) : sumP (l ++ [p]) = sumP l + (p.1 + p.2) := by
 unfold sumP; rw [List.map_append, List.sum_append]; simp
theorem next_spot (m : MS) : spotOf (nextV m) = spotOf m ∧ (nextV m).gs = m.gs ∧ (nextV m).f = m.f := by
 unfold nextV; cases decide (0 ≤ m.winner) <;> exact ⟨rfl, rfl, rfl⟩
section
variable {m : MS}
theorem got_eq (h : m.Inv) {side : Int} (hs : side = 0 ∨ side = 1) : gotS m.f (spotOf m) side = decide (m.w side = side) := by
 have hw := game_add (f := m.f) (s := setV m.f m.won) (t := m.tie) hs h.go
 have ht : tieS m.f (spotOf m) = m.tie := by rw [h.ta, h.won]; rfl
 have hv : setV m.f (wonV (spotOf m).st) = setV m.f m.won := by rw [h.won]; rfl
 rw [gotS, leastS, byS, ht, hv, MS.w]
 unfold gameV at hw ⊢
 cases htt : m.tie
 ·
  rw [htt] at hw
  cases hn : m.f.noAd
  ·
   rw [hn] at hw; exact lds_eq hs (by decide) hw
  ·
   rw [hn] at hw; exact lds_eq hs (by decide) hw
 ·
  rw [htt] at hw
  exact lds_eq (b := 2) hs (by decide) hw
theorem ends_eq (h : m.Inv) {side : Int} (hs : side = 0 ∨ side = 1) (hw : m.w side = side) : endS' m.f (spotOf m) side = setEnds m side := by
 have ht : tieS m.f (spotOf m) = m.tie := by rw [h.ta, h.won]; rfl
 have hl := leads_add (b := 2) (by decide) hs h.ld
 rw [endS', ht, setEnds]
 have e := lds_eq (p := addV m.g side) (l := m.f.games) (b := 2) hs (by decide) hl
 show (m.tie || ldS (addV m.g side) side m.f.games 2) = _
 rw [e]
 congr 1
 rw [Bool.eq_iff_iff, decide_eq_true_eq, decide_eq_true_eq]
 omega
theorem inv_top (h : m.Inv) : decide (topS (spotOf m) = m.f.sets) = false := by
 have := h.ws
 rw [h.won] at this
 apply decide_eq_false
 show ¬ max (wonV m.st).1 (wonV m.st).2 = m.f.sets
 omega
end
theorem rch_next {m : MS} (h1 : (nextV m).Inv) (h2 : (m.gs.length : Int) = cntS (spotOf m)) : Rch (nextV m) :=
 ⟨.inl h1, by rw [(next_spot m).1, (next_spot m).2.1]; exact h2⟩
theorem rch_begin {f : Fmt} (hf : f.Ok) (first : Int) : Rch (beginV f first) := rch_next (m := begin0 f first) (begin_inv hf first) rfl
theorem begin_spot (f : Fmt) (first : Int) : spotOf (beginV f first) = ⟨first, [], (0, 0), (0, 0)⟩ := (next_spot (begin0 f first)).1
theorem spot_step {m : MS} (hf : m.f.Ok) (h : m.Inv) (hc : (m.gs.length : Int) = cntS (spotOf m)) {side : Int} (hs : side = 0 ∨ side = 1) : nxtS m.f (spotOf m) side = some (spotOf (pointV m side)) ∧ Rch (pointV m side) := by
 have hst := point_step hf h hs
 have hn : nxtS m.f (spotOf m) side = some (stepS m.f (spotOf m) side) := by rw [nxtS, inv_top h]; rfl
 have hg := got_eq h hs
 rw [hn]
 unfold stepS
 generalize hm' : pointV m side = m' at hst
 have hsum := add_sum m.g side
 cases hst with
 | no hw hi =>
  rw [hg, decide_eq_false (by rw [hw]; omega)]
  exact ⟨rfl, .inl hi, hc⟩
 | game hw he hp hi =>
  rw [hg, decide_eq_true hw, ends_eq h hs hw, he]
  refine ⟨by rw [(next_spot _).1]; rfl, rch_next hi ?_⟩
  show ((m.gs ++ [gameG m side]).length : Int) = sumP m.st + ((addV m.g side).1 + (addV m.g side).2)
  rw [List.length_append, List.length_singleton, hsum]
  have : (m.gs.length : Int) = sumP m.st + (m.g.1 + m.g.2) := hc
  omega
 | set hw he hl ho hp hi =>
  rw [hg, decide_eq_true hw, ends_eq h hs hw, he]
  refine ⟨by rw [(next_spot _).1]; rfl, rch_next hi ?_⟩
  show ((m.gs ++ [gameG m side]).length : Int) = sumP (m.st ++ [addV m.g side]) + (0 + 0)
  rw [List.length_append, List.length_singleton, sumP_app, hsum]
  have : (m.gs.length : Int) = sumP m.st + (m.g.1 + m.g.2) := hc
  omega
 | over hw he hl ho =>
  rw [hg, decide_eq_true hw, ends_eq h hs hw, he]
  have hwn : wonV (m.st ++ [addV m.g side]) = addV m.won side := by rw [wonV_app, wside_eq hs hl, h.won]
  refine ⟨rfl, .inr ⟨⟨hs, rfl⟩, ?_, ?_⟩, ?_⟩
  ·
   show max (wonV (m.st ++ [addV m.g side])).1 (wonV (m.st ++ [addV m.g side])).2 = m.f.sets
   rw [hwn]; exact ho
  ·
   show side = winS m.f ⟨m.first, m.st ++ [addV m.g side], (0, 0), (0, 0)⟩
   have hws := h.ws
   unfold winS
   dsimp only
   rw [hwn]
   rcases hs with rfl | rfl
   ·
    rw [add_0] at ho ⊢
    dsimp only at ho ⊢
    rw [decide_eq_true (by omega)]; rfl
   ·
    rw [add_1] at ho ⊢
    dsimp only at ho ⊢
    rw [decide_eq_false (by omega), decide_eq_true (by omega)]; rfl
  ·
   show ((m.gs ++ [gameG m side]).length : Int) = sumP (m.st ++ [addV m.g side]) + (0 + 0)
   rw [List.length_append, List.length_singleton, sumP_app, hsum]
   have : (m.gs.length : Int) = sumP m.st + (m.g.1 + m.g.2) := hc
   omega
theorem playTo_rch {f : Fmt} {first : Int} {xs : List Int} (hf : f.Ok) : ∀ {k : Nat} {m : MS}, playTo f first xs k = some m → Rch m
 | 0, m, h => by
  simp only [playTo, Option.some.injEq] at h
  subst h
  exact rch_begin hf first
 | k + 1, m, h => by
  rw [playTo] at h
  cases h1 : playTo f first xs k with
  | none => rw [h1] at h; cases h
  | some m0 =>
   cases h2 : xs[k]? with
   | none => rw [h1, h2] at h; cases h
   | some s =>
    rw [h1, h2] at h
    dsimp only at h
    have hr := playTo_rch hf h1
    have hmf := (playTo_inv hf h1).1
    cases hb : sideBad s || decide (0 ≤ m0.winner)
    ·
     rw [hb] at h
     obtain rfl := Option.some.inj h
     simp only [Bool.or_eq_false_iff, decide_eq_false_iff_not] at hb
     have hs : s = 0 ∨ s = 1 := by
      have := hb.1
      unfold sideBad at this
      simp only [Bool.and_eq_false_iff, Bool.not_eq_false', decide_eq_true_eq] at this
      omega
     rcases hr.inv with hi | ⟨hd, _⟩
     ·
      exact (spot_step (hmf ▸ hf) hi hr.cnt hs).2
     ·
      have := hd.w; omega
    ·
     rw [hb] at h; cases h
theorem rch_win {m : MS} (h : Rch m) : m.winner = winS m.f (spotOf m) := by
 rcases h.inv with hi | ⟨_, _, hw⟩
 ·
  have := hi.ws
  rw [hi.won] at this
  rw [hi.w, winS, decide_eq_false (show ¬ (wonV (spotOf m).st).1 = m.f.sets by show ¬ (wonV m.st).1 = _; omega), decide_eq_false (show ¬ (wonV (spotOf m).st).2 = m.f.sets by show ¬ (wonV m.st).2 = _; omega)]; rfl
 ·
  exact hw
theorem rch_srv {m : MS} (hfs : 0 ≤ m.first ∧ m.first ≤ 1) (h : Rch m) : m.server = srvS m.f (spotOf m) := by
 rcases h.inv with hi | ⟨hd, ht, _⟩
 ·
  rw [srvS, inv_top hi, cond_false, hi.sv]
  have ht : tieS m.f (spotOf m) = m.tie := by rw [hi.ta, hi.won]; rfl
  have hc : (cntS (spotOf m)).toNat = m.gs.length := by rw [← h.cnt, Int.toNat_natCast]
  rw [ht, hc]
  refine (serv_eq hfs hi.tl rfl ?_).symm
  have := hi.p0
  show 0 ≤ m.p.1 + m.p.2
  omega
 ·
  rw [srvS, decide_eq_true (show topS (spotOf m) = m.f.sets from ht), cond_true]; exact hd.sv
end Go.Proofs.YtpmmgljndceplaaGreat

namespace Go.Proofs.YtpmmgljndceplaaGreat
open Go Go.RowKit

def t1M (m : MS) : Int := bif decide (2 ≤ (m.ties.length : Int)) && tieI m.ties ((m.ties.length : Int) - 2) then 1 else 0
def totC (m : MS) : Cs := bif decide (0 ≤ m.winner) then ((m.balls, m.balls), ((m.st.length : Int), (m.st.length : Int))) else
 (((fromP m.f m.won m.g m.gs.length (t1M m)).1.1 + m.balls, (fromP m.f m.won m.g m.gs.length (t1M m)).1.2 + m.balls), ((fromP m.f m.won m.g m.gs.length (t1M m)).2.1 + (m.st.length + 1), (fromP m.f m.won m.g m.gs.length (t1M m)).2.2 + (m.st.length + 1)))
def InC (a b : Cs) : Prop := (b.1.1 ≤ a.1.1 ∧ a.1.2 ≤ b.1.2) ∧ b.2.1 ≤ a.2.1 ∧ a.2.2 ≤ b.2.2
theorem InC.trans {a b c : Cs} (h : InC a b) (h' : InC b c) : InC a c := by unfold InC at *; omega
theorem InC.refl (a : Cs) : InC a a := ⟨⟨Int.le_refl _, Int.le_refl _⟩, Int.le_refl _, Int.le_refl _⟩
def shC (c : Cs) (x y : Int) : Cs := ((c.1.1 + x, c.1.2 + x), (c.2.1 + y, c.2.2 + y))
theorem InC.sh {a b : Cs} (h : InC a b) (x y : Int) : InC (shC a x y) (shC b x y) := by unfold InC shC at *; dsimp only; omega
theorem inC_or1 (a b : Cs) : InC a (orV a b) := by unfold InC orV wideV; dsimp only; omega
theorem inC_or2 (a b : Cs) : InC b (orV a b) := by unfold InC orV wideV; dsimp only; omega
theorem tot_play {m : MS} (h : m.winner = -1) : totC m = shC (fromP m.f m.won m.g m.gs.length (t1M m)) m.balls (m.st.length + 1) := by rw [totC, h]; rfl
theorem tot_done {m : MS} (h : 0 ≤ m.winner) : totC m = shC zC m.balls m.st.length := by
 rw [totC, decide_eq_true h]
 unfold shC zC
 simp
theorem next_ne {m : MS} (h : m.winner = -1) : nextV m = { m with ties := tiesV m, balls := bif freshV m.f (tiesV m) then m.balls + 1 else m.balls, server := servesV m.f m.first (tiesV m) 0 } := by rw [nextV, show decide (0 ≤ m.winner) = false by rw [h]; rfl]; rfl
section
variable {f : Fmt} {m : MS} {side : Int}
theorem ends_open (hf : m.f.Ok) (hi : m.Inv) (ho : OpenP m.f (setV m.f m.won) m.g.1 m.g.2) (hs : side = 0 ∨ side = 1) : endS m.f m.won m.g side = setEnds m side := by
 have ht := tie_ok hf m.won
 unfold setEnds
 rw [hi.ta]
 rcases hs with rfl | rfl
 ·
  exact eo_is ht ho
 ·
  exact eo_is' ht ho
theorem tie_old {l : List Bool} {b : Bool} {i : Int} (h : i.toNat < l.length) : tieI (l ++ [b]) i = tieI l i := by
 unfold tieI
 rw [List.getD_eq_getElem?_getD, List.getD_eq_getElem?_getD, List.getElem?_append_left h]
theorem fresh_chg {m1 : MS} (hi : m.Inv) (h1 : m1.f = m.f) (h2 : m1.ties = m.ties) : freshV m1.f (tiesV m1) = chgV m.f m.gs.length (t1M m) m1.won m1.g := by
 have hl : ((tiesV m1).length : Int) - 1 = (m.gs.length : Int) + 1 := by have := hi.tl; simp [tiesV, h2]; omega
 have ha : tieI (tiesV m1) (((tiesV m1).length : Int) - 1) = brksV (setV m.f m1.won) m1.g := by rw [tiesV, h1]; exact tieI_app
 unfold freshV chgV
 rw [ha, hl, h1, Bool.and_comm (!_)]
 congr 1
 rw [show (m.gs.length : Int) + 1 - 2 = (m.gs.length : Int) - 1 by omega]
 congr 1
 unfold t1M
 have htl := hi.tl
 by_cases hn : 1 ≤ (m.gs.length : Int)
 ·
  rw [decide_eq_true (show (2 : Int) ≤ (m.gs.length : Int) + 1 by omega), decide_eq_true (show (2 : Int) ≤ (m.ties.length : Int) by omega), Bool.true_and, Bool.true_and, tiesV, h2, tie_old (by omega), show (m.gs.length : Int) - 1 = (m.ties.length : Int) - 2 by omega]
  cases tieI m.ties ((m.ties.length : Int) - 2) <;> rfl
 ·
  rw [decide_eq_false (show ¬ (2 : Int) ≤ (m.gs.length : Int) + 1 by omega), decide_eq_false (show ¬ (2 : Int) ≤ (m.ties.length : Int) by omega)]
  rfl
theorem t1_next {m1 : MS} (hi : m.Inv) (hw : m1.winner = -1) (h2 : m1.ties = m.ties) : t1M (nextV m1) = tieN m.f m.won m.g := by
 have htl := hi.tl
 have h0 := hi.ta
 rw [next_ne hw]
 unfold t1M tieN
 rw [← h0]
 dsimp only
 have hl : ((tiesV m1).length : Int) = (m.ties.length : Int) + 1 := by simp [tiesV, h2]
 rw [hl, decide_eq_true (show (2 : Int) ≤ (m.ties.length : Int) + 1 by omega), Bool.true_and, tiesV, h2, show (m.ties.length : Int) + 1 - 2 = (m.ties.length : Int) - 1 by omega, tie_old (by omega)]
 rfl
theorem cour_in (hf : f.Ok) (hb : Bdd f) {won g : Pr} {n t1 : Int} (h : Vs f won g) (hs : side = 0 ∨ side = 1) : InC (courV (fromP f) f won g n t1 side) (fromP f won g n t1) := by
 rw [from_eq hf hb h]
 rcases hs with rfl | rfl
 ·
  exact inC_or1 _ _
 ·
  exact inC_or2 _ _
theorem tot_next {m1 : MS} (hf : m.f.Ok) (hb : Bdd m.f) (hi : m.Inv) (hV : Vs m.f m.won m.g) (hs : side = 0 ∨ side = 1) (ho : overS m.f m.won m.g side = false) (hw : m1.winner = -1) (h1 : m1.f = m.f) (h2 : m1.ties = m.ties) (h3 : m1.won = wonS m.f m.won m.g side) (h4 : m1.g = gamS m.f m.won m.g side) (h5 : (m1.gs.length : Int) = m.gs.length + 1) (h6 : m1.balls = m.balls) (h7 : (m1.st.length : Int) = m.st.length + bz (endS m.f m.won m.g side)) : InC (totC (nextV m1)) (totC m) := by
 have hc := (cour_in (n := m.gs.length) (t1 := t1M m) hf hb hV hs).sh m.balls (m.st.length + 1)
 rw [tot_play hi.w]
 refine InC.trans ?_ hc
 have ht := t1_next hi hw h2
 have hfr := fresh_chg hi h1 h2
 have hb' : (nextV m1).balls = m.balls + bz (chgV m.f m.gs.length (t1M m) m1.won m1.g) := by
  rw [next_ne hw]
  dsimp only
  rw [hfr, h6]
  cases chgV m.f m.gs.length (t1M m) m1.won m1.g
  ·
   exact (Int.add_zero _).symm
  ·
   rfl
 have hnw : (nextV m1).winner = -1 := by rw [next_ne hw]; exact hw
 rw [tot_play hnw, ht, hb', courV, ho, cond_false]
 have e1 : (nextV m1).f = m.f := by rw [next_ne hw]; exact h1
 have e2 : (nextV m1).won = m1.won := by rw [next_ne hw]
 have e3 : (nextV m1).g = m1.g := by rw [next_ne hw]
 have e4 : (nextV m1).gs = m1.gs := by rw [next_ne hw]
 have e5 : (nextV m1).st = m1.st := by rw [next_ne hw]
 rw [e1, e2, e3, e4, e5, h5, h7, h3, h4]
 unfold shC bumpC InC
 dsimp only
 omega
end
end Go.Proofs.YtpmmgljndceplaaGreat

namespace Go.Proofs.YtpmmgljndceplaaGreat
open Go Go.RowKit

abbrev brdM (m : MS) : Brd := ⟨m.st, m.g, m.p⟩
structure Rst (f : Fmt) (T : Cs) (m : MS) (K : Nat) : Prop where
 mf : m.f = f
 rch : Rch m
 sets : ∀ (k : Nat) p, m.st[k]? = some p → expT f (setV f (wonTo m.st k)) p.1 p.2 = some true ∧ overV f (wonTo m.st k) = false
 nn : ∀ p ∈ m.st, 0 ≤ p.1 ∧ 0 ≤ p.2
 op : m.winner = -1 → OpenP f (setV f m.won) m.g.1 m.g.2
 dn : 0 ≤ m.winner → m.g = (0, 0) ∧ m.p = (0, 0) ∧ overV f (wonV m.st) = true
 t1 : m.winner = -1 → t1M m = t1V (brdM m)
 num : (m.gs.length : Int) + (bif decide (0 ≤ m.winner) then 0 else remV f m.won m.g) ≤ remV f (0, 0) (0, 0)
 tot : InC (totC m) T
 len : (m.gs.length : Int) + m.p.1 + m.p.2 ≤ K
 b0 : 0 ≤ m.balls
section
variable {f : Fmt} {s : Pr} {T : Cs} {m : MS} {K : Nat} {side : Int}
theorem exp_end (ht : TieOk f s) {a b k : Int} (hk : k = 0 ∨ k = 1) (h : OpenP f s a b) (he : EndP f s a b k = true) : expT f s (addV (a, b) k).1 (addV (a, b) k).2 = some true := by
 unfold expT
 rcases hk with rfl | rfl
 ·
  rw [add_0]
  dsimp only
  rw [if_neg (by unfold OpenP at h; omega), if_pos (by rw [show a + 1 - 1 = a by omega]; exact h), show a + 1 - 1 = a by omega, he]
 ·
  rw [add_1]
  dsimp only
  rw [if_neg (by unfold OpenP at h; omega)]
  by_cases h1 : OpenP f s (a - 1) (b + 1)
  ·
   rw [if_pos h1]
   have h2 : OpenP f s a (b + 1 - 1) := by rw [show b + 1 - 1 = b by omega]; exact h
   rw [ends_agree ht h1 h2, show b + 1 - 1 = b by omega, he]
  ·
   rw [if_neg h1, if_pos (by rw [show b + 1 - 1 = b by omega]; exact h), show b + 1 - 1 = b by omega, he]
theorem inv_vs (h : Rst f T m K) (hi : m.Inv) : Vs f m.won m.g := by
 have h1 := hi.ws
 have h2 := wonTo_bd m.st m.st.length
 rw [← show wonV m.st = wonTo m.st m.st.length from rfl, ← hi.won] at h2
 rw [h.mf] at h1
 exact ⟨by omega, h.op hi.w⟩
theorem isTl {g : Pr} (hb : m.tie = brksV s g) (hs : side = 0 ∨ side = 1) (ho : OpenP f s g.1 g.2) (he : (m.tie || decide (0 ≤ leadsV (addV g side) f.games 2)) = true) : (bif m.tie then (1 : Int) else 0) = tlV (addV g side) := by
 unfold tlV tlB
 have hl0 := leads_0 (p := addV g side) (l := f.games) (b := 2)
 have hl1 := leads_1 (p := addV g side) (l := f.games) (b := 2) (by decide)
 have hr := leadsV_rng (addV g side) f.games 2
 cases ht : m.tie
 ·
  rw [ht, Bool.false_or, decide_eq_true_eq] at he
  rw [decide_eq_false (by omega), decide_eq_false (by omega)]; rfl
 ·
  rw [ht] at hb
  have hb' := hb.symm
  simp only [brksV, Bool.and_eq_true, decide_eq_true_eq] at hb'
  rcases hs with rfl | rfl
  ·
   rw [add_0]
   dsimp only
   rw [decide_eq_true (show g.1 + 1 - g.2 = 1 by omega)]; rfl
  ·
   rw [add_1]
   dsimp only
   rw [decide_eq_true (show g.2 + 1 - g.1 = 1 by omega), Bool.or_true]
theorem rst_step (hf : f.Ok) (hb : Bdd f) (h : Rst f T m K) (hi : m.Inv) (hs : side = 0 ∨ side = 1) : Rst f T (pointV m side) (K + 1) := by
 have hV := inv_vs h hi
 have hmf := h.mf
 have hf' : m.f.Ok := hmf ▸ hf
 have hb' : Bdd m.f := hmf ▸ hb
 have hV' : Vs m.f m.won m.g := hmf ▸ hV
 have hrch := (spot_step hf' hi h.rch.cnt hs).2
 have hmf2 := (stp_f (point_step hf' hi hs)).1
 have hes := ends_open hf' hi hV'.2 hs
 have hst := point_step hf' hi hs
 have hsum := add_sum m.g side
 have hps := add_sum m.p side
 have hlen := h.len
 have hnum := h.num
 rw [hi.w] at hnum
 have hp0 := hi.p0
 have hg0 := hi.g0
 have ha0 : 0 ≤ (addV m.g side).1 ∧ 0 ≤ (addV m.g side).2 := by
  unfold addV; cases decide (side = 0) <;> simp only [cond_true, cond_false] <;> omega
 have hwt : wonTo m.st m.st.length = m.won := hi.won.symm
 have hfr : ∀ m0 : MS, m0.winner = -1 → m.balls ≤ m0.balls → 0 ≤ (nextV m0).balls := fun m0 hw hle => by
  have := h.b0
  rw [next_ne hw]
  dsimp only
  cases freshV m0.f (tiesV m0) <;> simp only [cond_true, cond_false] <;> omega
 -- the sets behind one more
 have hover : overV f m.won = false := by
  have := hi.ws
  unfold overV
  rw [hmf] at this
  exact decide_eq_false (by omega)
 have hsets : setEnds m side = true → ∀ (k : Nat) p, (m.st ++ [addV m.g side])[k]? = some p → expT f (setV f (wonTo (m.st ++ [addV m.g side]) k)) p.1 p.2 = some true ∧ overV f (wonTo (m.st ++ [addV m.g side]) k) = false := fun he k p hk => by
  by_cases hlt : k < m.st.length
  ·
   rw [List.getElem?_append_left hlt] at hk
   rw [wonTo_app _ _ _ (by omega)]
   exact h.sets k p hk
  ·
   have hl := (List.getElem?_eq_some_iff.1 hk).1
   obtain rfl : k = m.st.length := by simp at hl; omega
   simp at hk
   subst hk
   rw [wonTo_app _ _ _ (Nat.le_refl _), hwt]
   refine ⟨?_, hover⟩
   have hee : EndP f (setV f m.won) m.g.1 m.g.2 side = true := by
    rw [← he, setEnds, hi.ta, hmf]; rfl
   have := exp_end (tie_ok hf m.won) hs hV.2 hee
   exact this
 have hnn : ∀ p ∈ m.st ++ [addV m.g side], 0 ≤ p.1 ∧ 0 ≤ p.2 := fun p hp => by
  rcases List.mem_append.1 hp with hp | hp
  ·
   exact h.nn p hp
  ·
   rw [List.mem_singleton] at hp; subst hp; exact ha0
 generalize hm' : pointV m side = m' at hst hrch hmf2
 cases hst with
 | no hw hn =>
  refine ⟨hmf, hrch, h.sets, h.nn, h.op, fun hc => absurd hc (by show ¬ 0 ≤ m.winner; rw [hi.w]; decide), h.t1, h.num, h.tot, ?_, h.b0⟩
  show (m.gs.length : Int) + (addV m.p side).1 + (addV m.p side).2 ≤ ((K + 1 : Nat) : Int)
  omega
 | game hw he hp hn =>
  have hE : endS m.f m.won m.g side = false := hes.trans he
  have hO : overS m.f m.won m.g side = false := by rw [overS, hE]; rfl
  obtain ⟨hv1, hv2⟩ := step_ok' hf' hb' hs hV' hO
  have hw0 : (gameOver m side).winner = -1 := hi.w
  have hww : wonS m.f m.won m.g side = m.won := by rw [wonS, hE]; rfl
  have hgg : gamS m.f m.won m.g side = addV m.g side := by rw [gamS, hE]; rfl
  rw [hww, hgg] at hv1 hv2
  have hmt : m.tie = false := by
   have := he
   unfold setEnds at this
   rw [Bool.or_eq_false_iff] at this
   exact this.1
  have htot := (tot_next (m1 := gameOver m side) hf' hb' hi hV' hs hO hw0 rfl rfl hww.symm hgg.symm (by show ((m.gs ++ [gameG m side]).length : Int) = _; simp) rfl (by rw [hE]; exact (Int.add_zero _).symm)).trans h.tot
  have ht1 := t1_next (m1 := gameOver m side) hi hw0 rfl
  have e := next_ne hw0
  refine ⟨hmf2.trans hmf, hrch, ?_, ?_, fun _ => ?_, fun hc => ?_, fun _ => ?_, ?_, htot, ?_, hfr _ hw0 (Int.le_refl _)⟩
  ·
   rw [e]; exact h.sets
  ·
   rw [e]; exact h.nn
  ·
   rw [e]; rw [hmf] at hv1; exact hv1.2
  ·
   rw [e] at hc; exact absurd (show 0 ≤ m.winner from hc) (by rw [hi.w]; decide)
  ·
   rw [ht1, tieN, ← hi.ta, hmt, e]
   show (0 : Int) = t1V ⟨m.st, addV m.g side, (0, 0)⟩
   rw [t1V, decide_eq_true (show 0 < (addV m.g side).1 + (addV m.g side).2 by omega)]; rfl
  ·
   rw [e]
   show ((m.gs ++ [gameG m side]).length : Int) + (bif decide (0 ≤ m.winner) then 0 else remV f m.won (addV m.g side)) ≤ _
   rw [hi.w, List.length_append, List.length_singleton]
   rw [hmf] at hv2
   have hnum' : (m.gs.length : Int) + remV f m.won m.g ≤ remV f (0, 0) (0, 0) := hnum
   show ((m.gs.length + 1 : Nat) : Int) + remV f m.won (addV m.g side) ≤ _
   omega
  ·
   rw [e]
   show ((m.gs ++ [gameG m side]).length : Int) + 0 + 0 ≤ ((K + 1 : Nat) : Int)
   rw [List.length_append, List.length_singleton]; omega
 | set hw he hl ho hp hn =>
  have hE : endS m.f m.won m.g side = true := hes.trans he
  have hws := wonV_app m.st (addV m.g side)
  rw [wside_eq hs hl, ← hi.won] at hws
  have hO : overS m.f m.won m.g side = false := by
   rw [overS, hE, Bool.true_and]
   apply decide_eq_false
   rcases hs with rfl | rfl
   ·
    show ¬ (addV m.won 0).1 = m.f.sets; omega
   ·
    show ¬ (addV m.won 1).2 = m.f.sets; omega
  obtain ⟨hv1, hv2⟩ := step_ok' hf' hb' hs hV' hO
  have hw0 : (setOver m side).winner = -1 := hi.w
  have hww : wonS m.f m.won m.g side = addV m.won side := by rw [wonS, hE]; rfl
  have hgg : gamS m.f m.won m.g side = (0, 0) := by rw [gamS, hE]; rfl
  rw [hww, hgg] at hv1 hv2
  have htot := (tot_next (m1 := setOver m side) hf' hb' hi hV' hs hO hw0 rfl rfl hww.symm hgg.symm (by show ((m.gs ++ [gameG m side]).length : Int) = _; simp) rfl (by rw [hE]; show ((m.st ++ [addV m.g side]).length : Int) = _; simp [bz])).trans h.tot
  have ht1 := t1_next (m1 := setOver m side) hi hw0 rfl
  have e := next_ne hw0
  refine ⟨hmf2.trans hmf, hrch, ?_, ?_, fun _ => ?_, fun hc => ?_, fun _ => ?_, ?_, htot, ?_, hfr _ hw0 (Int.le_refl _)⟩
  ·
   rw [e]; exact hsets he
  ·
   rw [e]; exact hnn
  ·
   rw [e]; rw [hmf] at hv1; exact hv1.2
  ·
   rw [e] at hc; exact absurd (show 0 ≤ m.winner from hc) (by rw [hi.w]; decide)
  ·
   rw [ht1, tieN, ← hi.ta, e]
   show _ = t1V ⟨m.st ++ [addV m.g side], (0, 0), (0, 0)⟩
   rw [isTl (f := f) hi.ta hs (hmf ▸ hV'.2) (by rw [← hmf]; exact he)]
   have hk : (m.st ++ [addV m.g side])[m.st.length]? = some (addV m.g side) := by simp
   rw [t1V, List.length_append, List.length_singleton, tailE_succ hk]; rfl
  ·
   rw [e]
   show ((m.gs ++ [gameG m side]).length : Int) + (bif decide (0 ≤ m.winner) then 0 else remV f (addV m.won side) (0, 0)) ≤ _
   rw [hi.w, List.length_append, List.length_singleton]
   rw [hmf] at hv2
   have hnum' : (m.gs.length : Int) + remV f m.won m.g ≤ remV f (0, 0) (0, 0) := hnum
   show ((m.gs.length + 1 : Nat) : Int) + remV f (addV m.won side) (0, 0) ≤ _
   omega
  ·
   rw [e]
   show ((m.gs ++ [gameG m side]).length : Int) + 0 + 0 ≤ ((K + 1 : Nat) : Int)
   rw [List.length_append, List.length_singleton]; omega
 | over hw he hl ho =>
  have hE : endS m.f m.won m.g side = true := hes.trans he
  have hws := wonV_app m.st (addV m.g side)
  rw [wside_eq hs hl, ← hi.won] at hws
  have hwl := hi.ws
  have hO : overS m.f m.won m.g side = true := by
   rw [overS, hE, Bool.true_and]
   apply decide_eq_true
   rcases hs with rfl | rfl
   ·
    rw [add_0] at ho; show m.won.1 + 1 = m.f.sets; dsimp only at ho; omega
   ·
    rw [add_1] at ho; show m.won.2 + 1 = m.f.sets; dsimp only at ho; omega
  have h0 : 0 ≤ side := by omega
  have hov : overV f (wonV (m.st ++ [addV m.g side])) = true := by rw [hws, overV, ← hmf]; exact decide_eq_true ho
  have hrp := rem_pos hf' hb' hV'
  have hci := (cour_in (n := m.gs.length) (t1 := t1M m) hf' hb' hV' hs).sh m.balls (m.st.length + 1)
  rw [courV, hO, cond_true] at hci
  refine ⟨hmf, hrch, hsets he, hnn, fun hc => absurd hc (by show ¬ side = -1; omega), fun _ => ⟨rfl, rfl, hov⟩, fun hc => absurd hc (by show ¬ side = -1; omega), ?_, ?_, ?_, h.b0⟩
  ·
   show ((m.gs ++ [gameG m side]).length : Int) + (bif decide (0 ≤ side) then 0 else remV f (addV m.won side) (0, 0)) ≤ _
   rw [decide_eq_true h0, List.length_append, List.length_singleton]
   rw [hmf] at hrp
   have hnum' : (m.gs.length : Int) + remV f m.won m.g ≤ remV f (0, 0) (0, 0) := hnum
   show ((m.gs.length + 1 : Nat) : Int) + 0 ≤ _
   omega
  ·
   refine InC.trans ?_ h.tot
   rw [tot_done h0, tot_play hi.w]
   have : ((matchOver m side).st.length : Int) = m.st.length + 1 := by show ((m.st ++ [addV m.g side]).length : Int) = _; simp
   rw [this]
   exact hci
  ·
   show ((m.gs ++ [gameG m side]).length : Int) + 0 + 0 ≤ ((K + 1 : Nat) : Int)
   rw [List.length_append, List.length_singleton]; omega
theorem begin_ne (f : Fmt) (first : Int) : beginV f first = { begin0 f first with ties := tiesV (begin0 f first), balls := bif freshV f (tiesV (begin0 f first)) then 1 else 0, server := servesV f first (tiesV (begin0 f first)) 0 } := next_ne (m := begin0 f first) rfl
theorem fresh0 (hf : f.Ok) (first : Int) : freshV f (tiesV (begin0 f first)) = false := by
 have h1 := hf.f0
 unfold freshV
 have hl : (tiesV (begin0 f first)).length = 1 := rfl
 rw [hl]
 have h0 : dueV f 0 = false := by
  unfold dueV
  by_cases h : 0 < f.first
  ·
   rw [decide_eq_true h, decide_eq_false (show ¬ 0 - f.first = 0 by omega), decide_eq_false (show ¬ 0 < 0 - f.first by omega)]; rfl
  ·
   rw [decide_eq_false h]; rfl
 show (!tieI _ 0 && dueV f 0 || false && _ && _) = false
 rw [h0, Bool.and_false]; rfl
abbrev noBrd : Brd := ⟨[], (0, 0), (0, 0)⟩
theorem rest_none (hf : f.Ok) : restC f noBrd = bumpC (fromP f (0, 0) (0, 0) 0 0) false true := by
 have h1 := hf.s0
 have h2 : overV f (wonV []) = false := decide_eq_false (show ¬ (0 : Int) = f.sets by omega)
 unfold restC
 rw [h2]; rfl
theorem rst_begin (hf : f.Ok) (first : Int) : Rst f (restC f noBrd) (beginV f first) 0 := by
 have hs := hf.s0
 have e := begin_ne f first
 have hb : (beginV f first).balls = 0 := by rw [e, fresh0 hf]; rfl
 have hw : (beginV f first).winner = -1 := by rw [e]; rfl
 refine ⟨by rw [e]; rfl, rch_begin hf first, fun k p hk => ?_, fun p hp => ?_, fun _ => ?_, fun hc => ?_, fun _ => ?_, ?_, ?_, ?_, ?_⟩
 ·
  rw [e] at hk; cases hk
 ·
  rw [e] at hp; cases hp
 ·
  rw [e]; exact open0 (tie_ok hf _)
 ·
  rw [hw] at hc; exact absurd hc (by decide)
 ·
  rw [e]; rfl
 ·
  rw [e]; exact Int.le_of_eq (Int.zero_add _)
 ·
  rw [tot_play hw, hb, rest_none hf, e]
  have ht : t1M { begin0 f first with ties := tiesV (begin0 f first), balls := bif freshV f (tiesV (begin0 f first)) then 1 else 0, server := servesV f first (tiesV (begin0 f first)) 0 } = 0 := rfl
  rw [ht]
  exact InC.refl _
 ·
  rw [e]; exact Int.le_refl _
 ·
  rw [hb]; exact Int.le_refl _
end
end Go.Proofs.YtpmmgljndceplaaGreat

namespace Go.Proofs.YtpmmgljndceplaaGreat
open Go Go.RowKit

abbrev Mn := Int × Int × Int
abbrev En := Spot × Mn
def joinE (a b : Mn) : Mn := (min a.1 b.1, max a.2.1 b.2.1, min a.2.2 b.2.2)
def putC : List En → En → List En
 | [], e => [e]
 | x :: l, e => if x.1 = e.1 then (x.1, joinE x.2 e.2) :: l else x :: putC l e
def normC (l : List En) : List En := l.foldl putC []
def getC (l : List En) (s : Spot) : Option Mn := (l.find? fun e => decide (e.1 = s)).map (·.2)
def joinO (a b : Option Mn) : Option Mn := match a, b with
 | none, b => b
 | some x, none => some x
 | some x, some y => some (joinE x y)
def denC : List En → Spot → Option Mn
 | [], _ => none
 | e :: l, s => if e.1 = s then joinO (some e.2) (denC l s) else denC l s
theorem joinE_comm (a b : Mn) : joinE a b = joinE b a := Prod.ext (by simp only [joinE]; omega) (Prod.ext (by simp only [joinE]; omega) (by simp only [joinE]; omega))
theorem joinE_assoc (a b c : Mn) : joinE (joinE a b) c = joinE a (joinE b c) := Prod.ext (by simp only [joinE]; omega) (Prod.ext (by simp only [joinE]; omega) (by simp only [joinE]; omega))
theorem joinO_none (a : Option Mn) : joinO a none = a := by cases a <;> rfl
theorem joinO_comm (a b : Option Mn) : joinO a b = joinO b a := by
 cases a <;> cases b <;> simp only [joinO, joinE_comm]
theorem joinO_assoc (a b c : Option Mn) : joinO (joinO a b) c = joinO a (joinO b c) := by
 cases a <;> cases b <;> cases c <;> simp only [joinO, joinE_assoc]
theorem den_perm {l l' : List En} (h : l.Perm l') (s : Spot) : denC l s = denC l' s := by
 induction h with
 | nil => rfl
 | cons x _ ih => rw [denC, denC, ih]
 | swap x y l =>
  simp only [denC]
  by_cases h1 : x.1 = s <;> by_cases h2 : y.1 = s
  ·
   simp only [if_pos h1, if_pos h2]
   rw [← joinO_assoc, ← joinO_assoc, joinO_comm (some y.2)]
  ·
   simp only [if_pos h1, if_neg h2]
  ·
   simp only [if_neg h1, if_pos h2]
  ·
   simp only [if_neg h1, if_neg h2]
 | trans _ _ ih1 ih2 => rw [ih1, ih2]
theorem get_nil (s : Spot) : getC [] s = none := rfl
theorem get_cons (x : En) (l : List En) (s : Spot) : getC (x :: l) s = if x.1 = s then some x.2 else getC l s := by
 unfold getC
 rw [List.find?_cons]
 by_cases h : x.1 = s
 ·
  rw [decide_eq_true h, if_pos h]; rfl
 ·
  rw [decide_eq_false h, if_neg h]
theorem get_put (l : List En) (e : En) (s : Spot) : getC (putC l e) s = if e.1 = s then joinO (getC l s) (some e.2) else getC l s := by
 induction l with
 | nil => rw [putC, get_cons, get_nil]; rfl
 | cons x l ih =>
  rw [putC]
  by_cases hx : x.1 = e.1
  ·
   rw [if_pos hx, get_cons, get_cons]
   by_cases he : e.1 = s
   ·
    rw [if_pos (hx.trans he), if_pos he, if_pos (hx.trans he)]; rfl
   ·
    rw [if_neg (fun h => he (hx ▸ h)), if_neg he, if_neg (fun h => he (hx ▸ h))]
  ·
   rw [if_neg hx, get_cons, get_cons, ih]
   by_cases he : e.1 = s
   ·
    have hs : ¬ x.1 = s := fun h => hx (h.trans he.symm)
    simp only [if_pos he, if_neg hs]
   ·
    simp only [if_neg he]
theorem get_fold (l acc : List En) (s : Spot) : getC (l.foldl putC acc) s = joinO (getC acc s) (denC l s) := by
 induction l generalizing acc with
 | nil => rw [List.foldl_nil, denC, joinO_none]
 | cons e l ih =>
  rw [List.foldl_cons, ih, get_put, denC]
  by_cases h : e.1 = s
  ·
   rw [if_pos h, if_pos h, joinO_assoc]
  ·
   rw [if_neg h, if_neg h]
theorem get_norm (l : List En) (s : Spot) : getC (normC l) s = denC l s := by
 rw [normC, get_fold, get_nil]; rfl
def Keys (l : List En) : Prop := (l.map (·.1)).Nodup
theorem put_keys {l : List En} (e : En) (s : Spot) : s ∈ (putC l e).map (·.1) ↔ s ∈ l.map (·.1) ∨ s = e.1 := by
 induction l with
 | nil => simp [putC]
 | cons x l ih =>
  rw [putC]
  by_cases hx : x.1 = e.1
  ·
   rw [if_pos hx]
   simp only [List.map_cons, List.mem_cons]
   constructor
   ·
    exact fun h => .inl h
   ·
    rintro (h | h)
    ·
     exact h
    ·
     exact .inl (h.trans hx.symm)
  ·
   rw [if_neg hx]
   simp only [List.map_cons, List.mem_cons, ih]
   constructor
   ·
    rintro (h | h | h)
    ·
     exact .inl (.inl h)
    ·
     exact .inl (.inr h)
    ·
     exact .inr h
   ·
    rintro ((h | h) | h)
    ·
     exact .inl h
    ·
     exact .inr (.inl h)
    ·
     exact .inr (.inr h)
theorem put_nodup {l : List En} (e : En) (h : Keys l) : Keys (putC l e) := by
 induction l with
 | nil => unfold Keys putC; simp
 | cons x l ih =>
  unfold Keys at h ⊢
  rw [List.map_cons, List.nodup_cons] at h
  rw [putC]
  by_cases hx : x.1 = e.1
  ·
   rw [if_pos hx, List.map_cons, List.nodup_cons]; exact h
  ·
   rw [if_neg hx, List.map_cons, List.nodup_cons]
   refine ⟨fun hm => ?_, ih h.2⟩
   rcases (put_keys e x.1).1 hm with h1 | h1
   ·
    exact h.1 h1
   ·
    exact hx h1
theorem norm_nodup (l : List En) : Keys (normC l) := by
 have : ∀ (l acc : List En), Keys acc → Keys (l.foldl putC acc) := fun l => by
  induction l with
  | nil => exact fun acc h => h
  | cons e l ih => exact fun acc h => ih _ (put_nodup e h)
 exact this l [] List.nodup_nil
theorem mem_get {l : List En} (h : Keys l) (e : En) : e ∈ l ↔ getC l e.1 = some e.2 := by
 induction l with
 | nil => simp [getC]
 | cons x l ih =>
  unfold Keys at h
  rw [List.map_cons, List.nodup_cons] at h
  rw [get_cons, List.mem_cons, ih h.2]
  by_cases hx : x.1 = e.1
  ·
   rw [if_pos hx]
   constructor
   ·
    rintro (h1 | h1)
    ·
     rw [h1]
    ·
     exfalso
     have : e ∈ l := (ih h.2).2 h1
     exact h.1 (hx ▸ List.mem_map.2 ⟨e, this, rfl⟩)
   ·
    exact fun h1 => .inl (Prod.ext hx.symm (Option.some.inj h1).symm)
  ·
   rw [if_neg hx]
   constructor
   ·
    rintro (h1 | h1)
    ·
     exact absurd (congrArg Prod.fst h1).symm hx
    ·
     exact h1
   ·
    exact fun h1 => .inr h1
theorem keys_nodup {l : List En} (h : Keys l) : l.Nodup := by
 induction l with
 | nil => exact List.nodup_nil
 | cons x l ih =>
  unfold Keys at h
  rw [List.map_cons, List.nodup_cons] at h
  exact List.nodup_cons.2 ⟨fun hm => h.1 (List.mem_map.2 ⟨x, hm, rfl⟩), ih h.2⟩
theorem perm_of_get {l l' : List En} (h : Keys l) (h' : Keys l') (hg : ∀ s, getC l s = getC l' s) : l.Perm l' :=
 (List.perm_ext_iff_of_nodup (keys_nodup h) (keys_nodup h')).2 fun e => by rw [mem_get h, mem_get h', hg]
theorem norm_perm {l l' : List En} (h : l.Perm l') : (normC l).Perm (normC l') :=
 perm_of_get (norm_nodup l) (norm_nodup l') fun s => by rw [get_norm, get_norm, den_perm h]

def upE (e : En) (s : Spot) : En := (s, (e.2.1 + 1, e.2.2.1 + 1, e.2.2.2))
def goE (f : Fmt) (side : Int) (e : En) (p : Int) : List En := if side = -1 ∨ side = p then (match nxtS f e.1 p with | some s => [upE e s] | none => []) else []
def stepI (f : Fmt) (l : List En) (side : Int) : List En := l.flatMap fun e => goE f side e 0 ++ goE f side e 1
def stepC (f : Fmt) (l : List En) (side : Int) : List En := normC (stepI f l side)
def iterC (f : Fmt) (l : List En) : Nat → List En
 | 0 => l
 | k + 1 => stepC f (iterC f l k) (-1)
def missI (f : Fmt) (l : List En) (a : Int) : Nat → List En
 | 0 => []
 | k + 1 => missI f l a k ++ (if a ≤ (k : Int) then iterC f l k else [])
def missC (f : Fmt) (l : List En) (a : Int) (b : Nat) : List En := normC (missI f l a (b + 1))
theorem step_perm (f : Fmt) {l l' : List En} (side : Int) (h : l.Perm l') : (stepC f l side).Perm (stepC f l' side) := norm_perm (h.flatMap_right _)
theorem iter_perm (f : Fmt) {l l' : List En} (h : l.Perm l') : ∀ k, (iterC f l k).Perm (iterC f l' k)
 | 0 => h
 | k + 1 => step_perm f (-1) (iter_perm f h k)
theorem missI_perm (f : Fmt) {l l' : List En} (a : Int) (h : l.Perm l') : ∀ k, (missI f l a k).Perm (missI f l' a k)
 | 0 => .refl _
 | k + 1 => by
  rw [missI, missI]
  refine (missI_perm f a h k).append ?_
  by_cases ha : a ≤ (k : Int)
  ·
   rw [if_pos ha, if_pos ha]; exact iter_perm f h k
  ·
   rw [if_neg ha, if_neg ha]
theorem miss_perm (f : Fmt) {l l' : List En} (a : Int) (b : Nat) (h : l.Perm l') : (missC f l a b).Perm (missC f l' a b) := norm_perm (missI_perm f a h _)
structure Nt where
 (kind side : Int) (pair : Pr)
def holdS (f : Fmt) (x : Nt) (s : Spot) : Bool :=
 bif decide (x.kind = 3) then decide (s.p = x.pair) else bif decide (x.kind = 4) then decide (s.g = x.pair) && decide (s.p = (0, 0)) else
 bif decide (x.kind = 5) then decide (wonV s.st = x.pair) && (decide (s.g = (0, 0)) && decide (s.p = (0, 0))) else
 bif decide (x.kind = 6) then decide (0 ≤ srvS f s) && decide (srvS f s % 2 = x.side) else decide (winS f s = x.side)
def testC (f : Fmt) (x : Nt) (l : List En) : List En := l.filter fun e => holdS f x e.1
def afterC (f : Fmt) (l : List En) (x : Nt) : List En :=
 if x.kind = 1 then stepC f l x.side else if x.kind = 2 then missC f l x.pair.1 x.pair.2.toNat else testC f x l
theorem after_perm (f : Fmt) {l l' : List En} (x : Nt) (h : l.Perm l') : (afterC f l x).Perm (afterC f l' x) := by
 unfold afterC
 by_cases h1 : x.kind = 1
 ·
  rw [if_pos h1, if_pos h1]; exact step_perm f _ h
 ·
  rw [if_neg h1, if_neg h1]
  by_cases h2 : x.kind = 2
  ·
   rw [if_pos h2, if_pos h2]; exact miss_perm f _ _ h
  ·
   rw [if_neg h2, if_neg h2]; exact h.filter _
end Go.Proofs.YtpmmgljndceplaaGreat

namespace Go.Proofs.YtpmmgljndceplaaGreat
open Go Go.RowKit

def keyC (l : List En) : List Spot := l.map (·.1)
theorem norm_mem (l : List En) (s : Spot) : s ∈ keyC (normC l) ↔ s ∈ keyC l := by
 have : ∀ (l acc : List En), s ∈ keyC (l.foldl putC acc) ↔ s ∈ keyC acc ∨ s ∈ keyC l := fun l => by
  induction l with
  | nil => intro acc; simp [keyC]
  | cons e l ih =>
   intro acc
   rw [List.foldl_cons, ih]
   show s ∈ (putC acc e).map (·.1) ∨ s ∈ keyC l ↔ s ∈ keyC acc ∨ s ∈ (e :: l).map (·.1)
   rw [put_keys, List.map_cons, List.mem_cons]
   constructor
   ·
    rintro ((h | h) | h)
    ·
     exact .inl h
    ·
     exact .inr (.inl h)
    ·
     exact .inr (.inr h)
   ·
    rintro (h | h | h)
    ·
     exact .inl (.inl h)
    ·
     exact .inl (.inr h)
    ·
     exact .inr h
 rw [normC, this]
 simp [keyC]
def Pt (f : Fmt) (side : Int) (t s : Spot) : Prop := ∃ p : Int, (p = 0 ∨ p = 1) ∧ (side = -1 ∨ side = p) ∧ nxtS f t p = some s
def Pts (f : Fmt) (t : Spot) : Nat → Spot → Prop
 | 0, s => t = s
 | k + 1, s => ∃ u, Pts f t k u ∧ Pt f (-1) u s
def Rel (f : Fmt) (x : Nt) (t s : Spot) : Prop :=
 if x.kind = 1 then Pt f x.side t s else if x.kind = 2 then ∃ k : Nat, k ≤ x.pair.2.toNat ∧ x.pair.1 ≤ (k : Int) ∧ Pts f t k s else t = s ∧ holdS f x s = true
theorem go_mem {f : Fmt} {side : Int} {e : En} {p : Int} {s : Spot} : s ∈ keyC (goE f side e p) ↔ (side = -1 ∨ side = p) ∧ nxtS f e.1 p = some s := by
 unfold goE
 by_cases h : side = -1 ∨ side = p
 ·
  rw [if_pos h]
  cases hn : nxtS f e.1 p with
  | none => simp [keyC]
  | some t =>
   simp only [keyC, upE, List.map_cons, List.map_nil, List.mem_singleton, h, true_and, Option.some.injEq]
   exact ⟨fun h => h.symm, fun h => h.symm⟩
 ·
  rw [if_neg h]; simp [keyC, h]
theorem step_mem {f : Fmt} {l : List En} {side : Int} {s : Spot} : s ∈ keyC (stepC f l side) ↔ ∃ t ∈ keyC l, Pt f side t s := by
 rw [stepC, norm_mem]
 unfold stepI
 simp only [keyC, List.map_flatMap, List.mem_flatMap, List.map_append, List.mem_append]
 constructor
 ·
  rintro ⟨e, he, h | h⟩
  ·
   exact ⟨e.1, List.mem_map.2 ⟨e, he, rfl⟩, 0, .inl rfl, go_mem.1 h⟩
  ·
   exact ⟨e.1, List.mem_map.2 ⟨e, he, rfl⟩, 1, .inr rfl, go_mem.1 h⟩
 ·
  rintro ⟨t, ht, p, hp, h⟩
  obtain ⟨e, he, rfl⟩ := List.mem_map.1 ht
  rcases hp with rfl | rfl
  ·
   exact ⟨e, he, .inl (go_mem.2 h)⟩
  ·
   exact ⟨e, he, .inr (go_mem.2 h)⟩
theorem iter_mem {f : Fmt} {l : List En} : ∀ {k : Nat} {s : Spot}, s ∈ keyC (iterC f l k) ↔ ∃ t ∈ keyC l, Pts f t k s
 | 0, s => ⟨fun h => ⟨s, h, rfl⟩, fun ⟨t, ht, h⟩ => by cases h; exact ht⟩
 | k + 1, s => by
  rw [iterC, step_mem]
  constructor
  ·
   rintro ⟨u, hu, h⟩
   obtain ⟨t, ht, h'⟩ := iter_mem.1 hu
   exact ⟨t, ht, u, h', h⟩
  ·
   rintro ⟨t, ht, u, h', h⟩
   exact ⟨u, iter_mem.2 ⟨t, ht, h'⟩, h⟩
theorem missI_mem {f : Fmt} {l : List En} {a : Int} {s : Spot} : ∀ {n : Nat}, s ∈ keyC (missI f l a n) ↔ ∃ k : Nat, k < n ∧ a ≤ (k : Int) ∧ ∃ t ∈ keyC l, Pts f t k s
 | 0 => ⟨fun h => by simp [keyC, missI] at h, fun ⟨k, h, _⟩ => by omega⟩
 | n + 1 => by
  have : keyC (missI f l a (n + 1)) = keyC (missI f l a n) ++ keyC (if a ≤ (n : Int) then iterC f l n else []) := by rw [missI]; simp [keyC]
  rw [this, List.mem_append, missI_mem]
  constructor
  ·
   rintro (⟨k, h1, h2⟩ | h)
   ·
    exact ⟨k, by omega, h2⟩
   ·
    by_cases ha : a ≤ (n : Int)
    ·
     rw [if_pos ha] at h
     exact ⟨n, by omega, ha, iter_mem.1 h⟩
    ·
     rw [if_neg ha] at h; simp [keyC] at h
  ·
   rintro ⟨k, h1, h2, h3⟩
   by_cases e : k = n
   ·
    subst e
    rw [if_pos h2]
    exact .inr (iter_mem.2 h3)
   ·
    exact .inl ⟨k, by omega, h2, h3⟩
theorem after_mem {f : Fmt} {l : List En} {x : Nt} {s : Spot} : s ∈ keyC (afterC f l x) ↔ ∃ t ∈ keyC l, Rel f x t s := by
 unfold afterC Rel
 by_cases h1 : x.kind = 1
 ·
  simp only [if_pos h1]; exact step_mem
 ·
  simp only [if_neg h1]
  by_cases h2 : x.kind = 2
  ·
   simp only [if_pos h2]
   rw [missC, norm_mem, missI_mem]
   constructor
   ·
    rintro ⟨k, hk, ha, t, ht, h⟩
    exact ⟨t, ht, k, by omega, ha, h⟩
   ·
    rintro ⟨t, ht, k, hk, ha, h⟩
    exact ⟨k, by omega, ha, t, ht, h⟩
  ·
   simp only [if_neg h2]
   constructor
   ·
    intro h
    obtain ⟨e, he, rfl⟩ := List.mem_map.1 h
    obtain ⟨h3, h4⟩ := List.mem_filter.1 he
    exact ⟨e.1, List.mem_map.2 ⟨e, h3, rfl⟩, rfl, h4⟩
   ·
    rintro ⟨t, ht, rfl, h⟩
    obtain ⟨e, he, rfl⟩ := List.mem_map.1 ht
    exact List.mem_map.2 ⟨e, List.mem_filter.2 ⟨he, h⟩, rfl⟩

def begC (first : Int) : List En := (if first = -1 ∨ first = 0 then [(⟨0, [], (0, 0), (0, 0)⟩, (0, 0, 0))] else []) ++ (if first = -1 ∨ first = 1 then [(⟨1, [], (0, 0), (0, 0)⟩, (0, 0, 0))] else [])
def crowdC (f : Fmt) (first : Int) (xs : List Nt) : List En := xs.foldl (afterC f) (begC first)
theorem crowd_succ (f : Fmt) (first : Int) {xs : List Nt} {k : Nat} {x : Nt} (h : xs[k]? = some x) : crowdC f first (xs.take (k + 1)) = afterC f (crowdC f first (xs.take k)) x := by
 unfold crowdC
 rw [List.take_add_one, h, List.foldl_append]; rfl
def Lft (f : Fmt) (first : Int) (xs : List Nt) : Nat → Nat → Spot → Prop
 | 0, k, s => k = 0 ∧ s ∈ keyC (begC first)
 | j + 1, k, s => (∃ x t, xs[j]? = some x ∧ Lft f first xs j k t ∧ Rel f x t s) ∨ ∃ k', k = k' + 1 ∧ Lft f first xs j k' s
theorem lft_le {f : Fmt} {first : Int} {xs : List Nt} : ∀ {j k : Nat} {s : Spot}, Lft f first xs j k s → k ≤ j
 | 0, k, s, h => by have := h.1; omega
 | j + 1, k, s, h => by
  rcases h with ⟨_, _, _, h, _⟩ | ⟨k', rfl, h⟩
  ·
   have := lft_le h; omega
  ·
   have := lft_le h; omega
end Go.Proofs.YtpmmgljndceplaaGreat

namespace Go.Proofs.YtpmmgljndceplaaGreat
open Go Go.RowKit

def Mo (l : List En) (R : Int → Spot → Prop) : Prop := (∀ e ∈ l, R e.2.2.2 e.1) ∧ ∀ n s, R n s → ∃ e ∈ l, e.1 = s ∧ e.2.2.2 ≤ n
theorem Mo.iff {l : List En} {R R' : Int → Spot → Prop} (h : Mo l R) (hi : ∀ n s, R n s ↔ R' n s) : Mo l R' := ⟨fun e he => (hi _ _).1 (h.1 e he), fun n s hr => h.2 n s ((hi _ _).2 hr)⟩
theorem den_out {l : List En} {s : Spot} {v : Mn} (h : denC l s = some v) : (∃ e ∈ l, e.1 = s ∧ e.2.2.2 = v.2.2) ∧ ∀ e ∈ l, e.1 = s → v.2.2 ≤ e.2.2.2 := by
 induction l generalizing v with
 | nil => cases h
 | cons e l ih =>
  rw [denC] at h
  by_cases he : e.1 = s
  ·
   rw [if_pos he] at h
   cases hd : denC l s with
   | none =>
    rw [hd] at h
    have hv : e.2 = v := Option.some.inj h
    subst hv
    refine ⟨⟨e, List.mem_cons_self, he, rfl⟩, fun e' he' hs => ?_⟩
    rcases List.mem_cons.1 he' with rfl | hm
    ·
     exact Int.le_refl _
    ·
     exfalso
     have : ∀ l : List En, e' ∈ l → e'.1 = s → denC l s ≠ none := fun l => by
      induction l with
      | nil => intro h; cases h
      | cons y l ih2 =>
       intro hy hs2 hn
       rw [denC] at hn
       by_cases h3 : y.1 = s
       ·
        rw [if_pos h3] at hn
        cases hq : denC l s <;> rw [hq] at hn <;> cases hn
       ·
        rw [if_neg h3] at hn
        rcases List.mem_cons.1 hy with rfl | hy
        ·
         exact h3 hs2
        ·
         exact ih2 hy hs2 hn
     exact this l hm hs hd
   | some u =>
    rw [hd] at h
    have hv : joinE e.2 u = v := Option.some.inj h
    subst hv
    obtain ⟨⟨e1, h1, h2, h3⟩, h4⟩ := ih hd
    have hj : (joinE e.2 u).2.2 = min e.2.2.2 u.2.2 := rfl
    rw [hj]
    refine ⟨?_, fun e' he' hs => ?_⟩
    ·
     by_cases hle : e.2.2.2 ≤ u.2.2
     ·
      exact ⟨e, List.mem_cons_self, he, by omega⟩
     ·
      exact ⟨e1, List.mem_cons_of_mem _ h1, h2, by omega⟩
    ·
     rcases List.mem_cons.1 he' with rfl | hm
     ·
      omega
     ·
      have := h4 e' hm hs; omega
  ·
   rw [if_neg he] at h
   obtain ⟨⟨e1, h1, h2, h3⟩, h4⟩ := ih h
   refine ⟨⟨e1, List.mem_cons_of_mem _ h1, h2, h3⟩, fun e' he' hs => ?_⟩
   rcases List.mem_cons.1 he' with rfl | hm
   ·
    exact absurd hs he
   ·
    exact h4 e' hm hs
theorem den_mem {l : List En} {s : Spot} (h : s ∈ keyC l) : ∃ v, denC l s = some v := by
 have := (norm_mem l s).2 h
 obtain ⟨e, he, rfl⟩ := List.mem_map.1 this
 exact ⟨e.2, by rw [← get_norm]; exact (mem_get (norm_nodup l) e).1 he⟩
theorem Mo.of_den {l l' : List En} {R : Int → Spot → Prop} (h : Mo l R) (hk : Keys l') (hg : ∀ s, getC l' s = denC l s) : Mo l' R := by
 refine ⟨fun e he => ?_, fun n s hr => ?_⟩
 ·
  have := (mem_get hk e).1 he
  rw [hg] at this
  obtain ⟨⟨e1, h1, h2, h3⟩, _⟩ := den_out this
  have := h.1 e1 h1
  rwa [h2, h3] at this
 ·
  obtain ⟨e, he, hs, hn⟩ := h.2 n s hr
  obtain ⟨v, hv⟩ := den_mem (List.mem_map.2 ⟨e, he, hs⟩)
  have h4 := (den_out hv).2 e he hs
  exact ⟨(s, v), (mem_get hk (s, v)).2 (by rw [hg]; exact hv), rfl, by show v.2.2 ≤ n; omega⟩
theorem Mo.norm {l : List En} {R : Int → Spot → Prop} (h : Mo l R) : Mo (normC l) R := h.of_den (norm_nodup l) (get_norm l)
theorem Mo.app {l l' : List En} {R R' : Int → Spot → Prop} (h : Mo l R) (h' : Mo l' R') : Mo (l ++ l') (fun n s => R n s ∨ R' n s) := by
 refine ⟨fun e he => ?_, fun n s hr => ?_⟩
 ·
  rcases List.mem_append.1 he with he | he
  ·
   exact .inl (h.1 e he)
  ·
   exact .inr (h'.1 e he)
 ·
  rcases hr with hr | hr
  ·
   obtain ⟨e, he, h2⟩ := h.2 n s hr
   exact ⟨e, List.mem_append_left _ he, h2⟩
  ·
   obtain ⟨e, he, h2⟩ := h'.2 n s hr
   exact ⟨e, List.mem_append_right _ he, h2⟩
theorem go_out {f : Fmt} {side : Int} {e : En} {p : Int} {u : En} : u ∈ goE f side e p ↔ (side = -1 ∨ side = p) ∧ nxtS f e.1 p = some u.1 ∧ u = upE e u.1 := by
 unfold goE
 by_cases h : side = -1 ∨ side = p
 ·
  rw [if_pos h]
  cases hn : nxtS f e.1 p with
  | none => simp
  | some t =>
   simp only [List.mem_singleton, h, true_and, Option.some.injEq]
   constructor
   ·
    rintro rfl; exact ⟨rfl, rfl⟩
   ·
    rintro ⟨rfl, h2⟩; exact h2
 ·
  rw [if_neg h]; simp [h]
theorem Mo.step {f : Fmt} {l : List En} {R : Int → Spot → Prop} (side : Int) (h : Mo l R) : Mo (stepC f l side) (fun n s => ∃ t, R n t ∧ Pt f side t s) := by
 refine Mo.norm ⟨fun u hu => ?_, fun n s hr => ?_⟩
 ·
  obtain ⟨e, he, hu⟩ := List.mem_flatMap.1 hu
  rcases List.mem_append.1 hu with hu | hu
  ·
   obtain ⟨h1, h2, h3⟩ := go_out.1 hu
   exact ⟨e.1, by rw [h3]; exact h.1 e he, 0, .inl rfl, h1, h2⟩
  ·
   obtain ⟨h1, h2, h3⟩ := go_out.1 hu
   exact ⟨e.1, by rw [h3]; exact h.1 e he, 1, .inr rfl, h1, h2⟩
 ·
  obtain ⟨t, ht, p, hp, hsd, hn⟩ := hr
  obtain ⟨e, he, rfl, hle⟩ := h.2 n t ht
  refine ⟨upE e s, List.mem_flatMap.2 ⟨e, he, ?_⟩, rfl, hle⟩
  rcases hp with rfl | rfl
  ·
   exact List.mem_append_left _ (go_out.2 ⟨hsd, hn, rfl⟩)
  ·
   exact List.mem_append_right _ (go_out.2 ⟨hsd, hn, rfl⟩)
theorem Mo.iter {f : Fmt} {l : List En} {R : Int → Spot → Prop} (h : Mo l R) : ∀ k, Mo (iterC f l k) (fun n s => ∃ t, R n t ∧ Pts f t k s)
 | 0 => h.iff fun n s => ⟨fun hr => ⟨s, hr, rfl⟩, fun ⟨t, hr, ht⟩ => by cases ht; exact hr⟩
 | k + 1 => ((h.iter k).step (-1)).iff fun n s => ⟨fun ⟨u, ⟨t, hr, hp⟩, h2⟩ => ⟨t, hr, u, hp, h2⟩, fun ⟨t, hr, u, hp, h2⟩ => ⟨u, ⟨t, hr, hp⟩, h2⟩⟩
theorem Mo.nil : Mo [] (fun _ _ => False) := ⟨fun e he => (by cases he), fun n s h => h.elim⟩
theorem Mo.missI {f : Fmt} {l : List En} {R : Int → Spot → Prop} (a : Int) (h : Mo l R) : ∀ n, Mo (missI f l a n) (fun m s => ∃ t, R m t ∧ ∃ k : Nat, k < n ∧ a ≤ (k : Int) ∧ Pts f t k s)
 | 0 => Mo.nil.iff fun m s => ⟨fun h => h.elim, fun ⟨t, _, k, hk, _⟩ => by omega⟩
 | n + 1 => by
  unfold Go.Proofs.YtpmmgljndceplaaGreat.missI
  by_cases ha : a ≤ (n : Int)
  ·
   rw [if_pos ha]
   refine ((h.missI a n).app (h.iter (f := f) n)).iff fun m s => ⟨?_, ?_⟩
   ·
    rintro (⟨t, hr, k, hk, h2⟩ | ⟨t, hr, hp⟩)
    ·
     exact ⟨t, hr, k, by omega, h2⟩
    ·
     exact ⟨t, hr, n, by omega, ha, hp⟩
   ·
    rintro ⟨t, hr, k, hk, h2, h3⟩
    by_cases e : k = n
    ·
     subst e; exact .inr ⟨t, hr, h3⟩
    ·
     exact .inl ⟨t, hr, k, by omega, h2, h3⟩
  ·
   rw [if_neg ha, List.append_nil]
   refine (h.missI a n).iff fun m s => ⟨?_, ?_⟩
   ·
    rintro ⟨t, hr, k, hk, h2⟩
    exact ⟨t, hr, k, by omega, h2⟩
   ·
    rintro ⟨t, hr, k, hk, h2, h3⟩
    exact ⟨t, hr, k, by by_cases e : k = n; (subst e; exact absurd h2 ha); omega, h2, h3⟩
theorem Mo.after {f : Fmt} {l : List En} {R : Int → Spot → Prop} (x : Nt) (h : Mo l R) : Mo (afterC f l x) (fun n s => ∃ t, R n t ∧ Rel f x t s) := by
 unfold afterC
 by_cases h1 : x.kind = 1
 ·
  rw [if_pos h1]
  refine (h.step x.side).iff fun n s => ?_
  unfold Rel; simp only [if_pos h1]
 ·
  rw [if_neg h1]
  by_cases h2 : x.kind = 2
  ·
   rw [if_pos h2]
   refine (h.missI (f := f) x.pair.1 (x.pair.2.toNat + 1)).norm.iff fun n s => ?_
   unfold Rel
   simp only [if_neg h1, if_pos h2]
   constructor
   ·
    rintro ⟨t, hr, k, hk, h3⟩; exact ⟨t, hr, k, by omega, h3⟩
   ·
    rintro ⟨t, hr, k, hk, h3⟩; exact ⟨t, hr, k, by omega, h3⟩
  ·
   rw [if_neg h2]
   refine ⟨fun e he => ?_, fun n s hr => ?_⟩
   ·
    obtain ⟨h3, h4⟩ := List.mem_filter.1 he
    refine ⟨e.1, h.1 e h3, ?_⟩
    unfold Rel; rw [if_neg h1, if_neg h2]; exact ⟨rfl, h4⟩
   ·
    obtain ⟨t, ht, hr⟩ := hr
    unfold Rel at hr; rw [if_neg h1, if_neg h2] at hr
    obtain ⟨rfl, hh⟩ := hr
    obtain ⟨e, he, rfl, hle⟩ := h.2 n t ht
    exact ⟨e, List.mem_filter.2 ⟨he, hh⟩, rfl, hle⟩

end Go.Proofs.YtpmmgljndceplaaGreat

namespace Go.Proofs.YtpmmgljndceplaaGreat
open Go Go.RowKit

def Run (f : Fmt) (K : Spot → Prop) : List Nt → Spot → Prop
 | [], s => K s
 | x :: xs, s => Run f (fun u => ∃ t, K t ∧ Rel f x t u) xs s
end Go.Proofs.YtpmmgljndceplaaGreat

namespace Go.Proofs.YtpmmgljndceplaaGreat
open Go Go.RowKit

def brdOf (s : Spot) : Brd := ⟨s.st, s.g, s.p⟩
theorem srt_same {α : Type} {lt : α → α → Prop} (irr : ∀ a, ¬ lt a a) (asym : ∀ a b, lt a b → ¬ lt b a) : ∀ {l l' : List α}, l.Pairwise lt → l'.Pairwise lt → (∀ a, a ∈ l ↔ a ∈ l') → l = l'
 | [], [], _, _, _ => rfl
 | [], b :: l', _, _, h => by cases (h b).2 List.mem_cons_self
 | a :: l, [], _, _, h => by cases (h a).1 List.mem_cons_self
 | a :: l, b :: l', h1, h2, h => by
  obtain ⟨ha, h3⟩ := List.pairwise_cons.1 h1
  obtain ⟨hb, h4⟩ := List.pairwise_cons.1 h2
  have hab : a = b := by
   rcases List.mem_cons.1 ((h a).1 List.mem_cons_self) with e | hm
   ·
    exact e
   ·
    rcases List.mem_cons.1 ((h b).2 List.mem_cons_self) with e | hm'
    ·
     exact e.symm
    ·
     exact absurd (ha b hm') (asym _ _ (hb a hm))
  subst hab
  refine congrArg (a :: ·) (srt_same irr asym h3 h4 fun c => ?_)
  constructor
  ·
   intro hc
   rcases List.mem_cons.1 ((h c).1 (List.mem_cons_of_mem _ hc)) with rfl | hm
   ·
    exact absurd (ha c hc) (irr c)
   ·
    exact hm
  ·
   intro hc
   rcases List.mem_cons.1 ((h c).2 (List.mem_cons_of_mem _ hc)) with rfl | hm
   ·
    exact absurd (hb c hc) (irr c)
   ·
    exact hm
def orI (a b : Int) : Int := if a ≠ 0 then a else b
def cmpP (a b : Pr) : Int := orI (a.1 - b.1) (a.2 - b.2)
def cmpL : List Pr → List Pr → Int
 | [], [] => 0
 | [], _ :: _ => -1
 | _ :: _, [] => 1
 | a :: l, b :: l' => orI (cmpP a b) (cmpL l l')
def cmpB (a b : Brd) : Int := orI (orI (cmpL a.st b.st) (cmpP a.g b.g)) (cmpP a.p b.p)
theorem cmpP_zero {a b : Pr} : cmpP a b = 0 ↔ a = b := by
 unfold cmpP orI
 constructor
 ·
  intro h
  by_cases h1 : a.1 - b.1 ≠ 0
  ·
   rw [if_pos h1] at h; exact absurd h h1
  ·
   rw [if_neg h1] at h; exact Prod.ext (by omega) (by omega)
 ·
  rintro rfl
  rw [if_neg (by omega)]; omega
theorem cmpL_zero : ∀ {a b : List Pr}, cmpL a b = 0 ↔ a = b
 | [], [] => ⟨fun _ => rfl, fun _ => rfl⟩
 | [], _ :: _ => ⟨fun h => absurd h (by show ¬ (-1 : Int) = 0; decide), fun h => by cases h⟩
 | _ :: _, [] => ⟨fun h => absurd h (by show ¬ (1 : Int) = 0; decide), fun h => by cases h⟩
 | a :: l, b :: l' => by
  rw [cmpL, orI]
  constructor
  ·
   intro h
   by_cases h1 : cmpP a b ≠ 0
   ·
    rw [if_pos h1] at h; exact absurd h h1
   ·
    rw [if_neg h1] at h
    have e := cmpP_zero.1 (show cmpP a b = 0 by omega)
    rw [e, cmpL_zero.1 h]
  ·
   intro h
   obtain ⟨rfl, rfl⟩ := List.cons.inj h
   rw [if_neg (by rw [cmpP_zero.2 rfl]; omega)]
   exact cmpL_zero.2 rfl
theorem orI_zero {a b : Int} : orI a b = 0 ↔ a = 0 ∧ b = 0 := by
 unfold orI
 by_cases h : a ≠ 0
 ·
  rw [if_pos h]; omega
 ·
  rw [if_neg h]; omega
theorem cmpB_zero {a b : Brd} : cmpB a b = 0 ↔ a = b := by
 unfold cmpB
 rw [orI_zero, orI_zero, cmpL_zero, cmpP_zero, cmpP_zero]
 constructor
 ·
  rintro ⟨⟨h1, h2⟩, h3⟩
  cases a; cases b
  cases h1; cases h2; cases h3; rfl
 ·
  rintro rfl; exact ⟨⟨rfl, rfl⟩, rfl⟩
theorem cmpP_neg {a b : Pr} : (cmpP a b < 0 ↔ 0 < cmpP b a) := by
 unfold cmpP orI
 by_cases h : a.1 - b.1 ≠ 0
 ·
  rw [if_pos h, if_pos (by omega)]; omega
 ·
  rw [if_neg h, if_neg (by omega)]; omega
theorem orI_neg {a b a' b' : Int} (h1 : a < 0 ↔ 0 < a') (h2 : 0 < a ↔ a' < 0) (h3 : b < 0 ↔ 0 < b') : orI a b < 0 ↔ 0 < orI a' b' := by
 unfold orI
 by_cases h : a ≠ 0
 ·
  rw [if_pos h, if_pos (by omega)]; exact h1
 ·
  rw [if_neg h, if_neg (by omega)]; exact h3
theorem cmpL_neg : ∀ {a b : List Pr}, cmpL a b < 0 ↔ 0 < cmpL b a
 | [], [] => by decide
 | [], _ :: _ => ⟨fun _ => by show (0 : Int) < 1; decide, fun _ => by show (-1 : Int) < 0; decide⟩
 | _ :: _, [] => ⟨fun h => by exact absurd h (by show ¬ (1 : Int) < 0; decide), fun h => by exact absurd h (by show ¬ (0 : Int) < -1; decide)⟩
 | a :: l, b :: l' => by
  rw [cmpL, cmpL]
  exact orI_neg cmpP_neg (cmpP_neg (a := b) (b := a)).symm cmpL_neg
theorem cmpB_neg {a b : Brd} : cmpB a b < 0 ↔ 0 < cmpB b a := by
 unfold cmpB
 exact orI_neg (orI_neg cmpL_neg (cmpL_neg (a := b.st) (b := a.st)).symm cmpP_neg) (orI_neg (cmpL_neg (a := b.st) (b := a.st)) cmpL_neg.symm (cmpP_neg (a := b.g) (b := a.g))).symm cmpP_neg
theorem cmpP_trans {a b c : Pr} (h1 : cmpP a b < 0) (h2 : cmpP b c < 0) : cmpP a c < 0 := by
 unfold cmpP orI at *
 by_cases e1 : a.1 - b.1 ≠ 0 <;> by_cases e2 : b.1 - c.1 ≠ 0
 ·
  rw [if_pos e1] at h1; rw [if_pos e2] at h2; rw [if_pos (by omega)]; omega
 ·
  rw [if_pos e1] at h1; rw [if_neg e2] at h2; rw [if_pos (by omega)]; omega
 ·
  rw [if_neg e1] at h1; rw [if_pos e2] at h2; rw [if_pos (by omega)]; omega
 ·
  rw [if_neg e1] at h1; rw [if_neg e2] at h2; rw [if_neg (by omega)]; omega
theorem cmpL_trans : ∀ {a b c : List Pr}, cmpL a b < 0 → cmpL b c < 0 → cmpL a c < 0
 | [], [], _, h1, _ => absurd h1 (by show ¬ (0 : Int) < 0; decide)
 | [], _ :: _, [], _, h2 => absurd h2 (by show ¬ (1 : Int) < 0; decide)
 | [], _ :: _, _ :: _, _, _ => by show (-1 : Int) < 0; decide
 | _ :: _, [], _, h1, _ => absurd h1 (by show ¬ (1 : Int) < 0; decide)
 | _ :: _, _ :: _, [], _, h2 => absurd h2 (by show ¬ (1 : Int) < 0; decide)
 | a :: l, b :: m, c :: n, h1, h2 => by
  rw [cmpL, orI] at h1 h2 ⊢
  by_cases e1 : cmpP a b ≠ 0 <;> by_cases e2 : cmpP b c ≠ 0
  ·
   rw [if_pos e1] at h1; rw [if_pos e2] at h2
   have := cmpP_trans h1 h2
   rw [if_pos (by omega)]; exact this
  ·
   rw [if_pos e1] at h1; rw [if_neg e2] at h2
   have e : b = c := cmpP_zero.1 (by omega)
   subst e
   rw [if_pos e1]; exact h1
  ·
   rw [if_neg e1] at h1; rw [if_pos e2] at h2
   have e : a = b := cmpP_zero.1 (by omega)
   subst e
   rw [if_pos e2]; exact h2
  ·
   rw [if_neg e1] at h1; rw [if_neg e2] at h2
   have e : a = b := cmpP_zero.1 (by omega)
   subst e
   rw [if_neg e2]; exact cmpL_trans h1 h2
theorem cmpB_trans {a b c : Brd} (h1 : cmpB a b < 0) (h2 : cmpB b c < 0) : cmpB a c < 0 := by
 unfold cmpB orI at *
 by_cases s1 : cmpL a.st b.st ≠ 0 <;> by_cases s2 : cmpL b.st c.st ≠ 0
 ·
  simp only [if_pos s1] at h1
  simp only [if_pos s2] at h2
  have := cmpL_trans h1 h2
  rw [if_pos (show cmpL a.st c.st ≠ 0 by omega), if_pos (show cmpL a.st c.st ≠ 0 by omega)]; exact this
 ·
  have e : b.st = c.st := cmpL_zero.1 (by omega)
  rw [← e, if_pos s1, if_pos s1]
  rw [if_pos s1, if_pos s1] at h1; exact h1
 ·
  have e : a.st = b.st := cmpL_zero.1 (by omega)
  rw [e, if_pos s2, if_pos s2]
  rw [if_pos s2, if_pos s2] at h2; exact h2
 ·
  have e1 : a.st = b.st := cmpL_zero.1 (by omega)
  rw [if_neg s1] at h1
  rw [if_neg s2] at h2
  rw [e1, if_neg s2]
  by_cases g1 : cmpP a.g b.g ≠ 0 <;> by_cases g2 : cmpP b.g c.g ≠ 0
  ·
   rw [if_pos g1] at h1; rw [if_pos g2] at h2
   have := cmpP_trans h1 h2
   rw [if_pos (by omega)]; exact this
  ·
   rw [if_pos g1] at h1
   have e : b.g = c.g := cmpP_zero.1 (by omega)
   rw [← e, if_pos g1]; exact h1
  ·
   rw [if_pos g2] at h2
   have e : a.g = b.g := cmpP_zero.1 (by omega)
   rw [e, if_pos g2]; exact h2
  ·
   rw [if_neg g1] at h1; rw [if_neg g2] at h2
   have e : a.g = b.g := cmpP_zero.1 (by omega)
   rw [e, if_neg g2]; exact cmpP_trans h1 h2
def SrtB (l : List Brd) : Prop := l.Pairwise fun a b => cmpB a b < 0
theorem srtB_same {l l' : List Brd} (h : SrtB l) (h' : SrtB l') (hm : ∀ b, b ∈ l ↔ b ∈ l') : l = l' :=
 srt_same (fun a h => by rw [cmpB_zero.2 rfl] at h; omega) (fun a b h1 h2 => by have := cmpB_neg.1 h1; omega) h h' hm
end Go.Proofs.YtpmmgljndceplaaGreat

namespace Go.Proofs.YtpmmgljndceplaaGreat
open Go Go.RowKit

def posB (l : List Brd) (b : Brd) : Nat := l.findIdx fun c => decide (cmpB b c < 0)
def insB (l : List Brd) (b : Brd) : List Brd := if b ∈ l then l else l.take (posB l b) ++ b :: l.drop (posB l b)
theorem cmpB_pos {a b : Brd} (h : ¬ cmpB a b < 0) (hne : a ≠ b) : cmpB b a < 0 := by
 have h0 : cmpB a b ≠ 0 := fun e => hne (cmpB_zero.1 e)
 exact cmpB_neg.2 (by omega)
theorem ins_mem {l : List Brd} {b c : Brd} : c ∈ insB l b ↔ c = b ∨ c ∈ l := by
 unfold insB
 by_cases h : b ∈ l
 ·
  rw [if_pos h]
  exact ⟨.inr, fun hc => hc.elim (fun e => e ▸ h) id⟩
 ·
  rw [if_neg h, List.mem_append, List.mem_cons]
  have : c ∈ l ↔ c ∈ l.take (posB l b) ∨ c ∈ l.drop (posB l b) := by rw [← List.mem_append, List.take_append_drop]
  rw [this]
  constructor
  ·
   rintro (h | h | h)
   ·
    exact .inr (.inl h)
   ·
    exact .inl h
   ·
    exact .inr (.inr h)
  ·
   rintro (h | h | h)
   ·
    exact .inr (.inl h)
   ·
    exact .inl h
   ·
    exact .inr (.inr h)
theorem ins_srt {l : List Brd} {b : Brd} (h : SrtB l) : SrtB (insB l b) := by
 unfold insB
 by_cases hb : b ∈ l
 ·
  rw [if_pos hb]; exact h
 ·
  rw [if_neg hb]
  have hspl : SrtB (l.take (posB l b) ++ l.drop (posB l b)) := by rw [List.take_append_drop]; exact h
  obtain ⟨h1, h2, h3⟩ := List.pairwise_append.1 hspl
  have hlo : ∀ c ∈ l.take (posB l b), cmpB c b < 0 := fun c hc => by
   obtain ⟨i, hi, rfl⟩ := List.getElem_of_mem hc
   rw [List.length_take] at hi
   rw [List.getElem_take]
   have hn := List.not_of_lt_findIdx (p := fun c => decide (cmpB b c < 0)) (xs := l) (i := i) (by unfold posB at hi; omega)
   refine cmpB_pos ?_ fun e => hb (e ▸ List.getElem_mem _)
   simpa using hn
  have hhi : ∀ c ∈ l.drop (posB l b), cmpB b c < 0 := fun c hc => by
   by_cases hp : posB l b < l.length
   ·
    have h0 : cmpB b l[posB l b] < 0 := by
     have := List.findIdx_getElem (p := fun c => decide (cmpB b c < 0)) (xs := l) (w := hp)
     exact of_decide_eq_true this
    rw [List.drop_eq_getElem_cons hp] at hc h2
    rcases List.mem_cons.1 hc with rfl | hc
    ·
     exact h0
    ·
     exact cmpB_trans h0 ((List.pairwise_cons.1 h2).1 c hc)
   ·
    rw [List.drop_eq_nil_of_le (by omega)] at hc; cases hc
  refine List.pairwise_append.2 ⟨h1, List.pairwise_cons.2 ⟨hhi, h2⟩, fun x hx y hy => ?_⟩
  rcases List.mem_cons.1 hy with rfl | hy
  ·
   exact hlo x hx
  ·
   exact h3 x hx y hy
def boardsC (l : List Spot) : List Brd := l.foldl (fun o s => insB o (brdOf s)) []
theorem boards_facts (l : List Spot) : SrtB (boardsC l) ∧ ∀ b, b ∈ boardsC l ↔ ∃ s ∈ l, brdOf s = b := by
 have : ∀ (l : List Spot) (o : List Brd), SrtB o → SrtB (l.foldl (fun o s => insB o (brdOf s)) o) ∧ ∀ b, b ∈ l.foldl (fun o s => insB o (brdOf s)) o ↔ b ∈ o ∨ ∃ s ∈ l, brdOf s = b := fun l => by
  induction l with
  | nil => exact fun o h => ⟨h, fun b => ⟨.inl, fun h => h.elim id fun ⟨_, h, _⟩ => by cases h⟩⟩
  | cons s l ih =>
   intro o h
   rw [List.foldl_cons]
   obtain ⟨h1, h2⟩ := ih (insB o (brdOf s)) (ins_srt h)
   refine ⟨h1, fun b => ?_⟩
   rw [h2, ins_mem]
   constructor
   ·
    rintro ((e | h) | ⟨t, ht, h⟩)
    ·
     exact .inr ⟨s, List.mem_cons_self, e.symm⟩
    ·
     exact .inl h
    ·
     exact .inr ⟨t, List.mem_cons_of_mem _ ht, h⟩
   ·
    rintro (h | ⟨t, ht, h⟩)
    ·
     exact .inl (.inr h)
    ·
     rcases List.mem_cons.1 ht with rfl | ht
     ·
      exact .inl (.inl h.symm)
     ·
      exact .inr ⟨t, ht, h⟩
 obtain ⟨h1, h2⟩ := this l [] List.Pairwise.nil
 exact ⟨h1, fun b => by rw [boardsC, h2]; exact ⟨fun h => h.elim (fun h => by cases h) id, .inr⟩⟩
def cptB : List Brd → List Brd
 | [] => []
 | [b] => [b]
 | b :: c :: l => if b = c then cptB (c :: l) else b :: cptB (c :: l)
theorem cpt_mem : ∀ {l : List Brd} {b : Brd}, b ∈ cptB l ↔ b ∈ l
 | [], b => Iff.rfl
 | [_], b => Iff.rfl
 | a :: c :: l, b => by
  rw [cptB]
  by_cases h : a = c
  ·
   subst h
   rw [if_pos rfl, cpt_mem, List.mem_cons, List.mem_cons, List.mem_cons]
   constructor
   ·
    exact .inr
   ·
    rintro (h | h)
    ·
     exact .inl h
    ·
     exact h
  ·
   rw [if_neg h, List.mem_cons, cpt_mem, ← List.mem_cons]
theorem cpt_srt : ∀ {l : List Brd}, l.Pairwise (fun a b => cmpB a b ≤ 0) → SrtB (cptB l)
 | [], _ => List.Pairwise.nil
 | [_], _ => List.pairwise_singleton _ _
 | a :: c :: l, h => by
  rw [cptB]
  obtain ⟨h1, h2⟩ := List.pairwise_cons.1 h
  by_cases e : a = c
  ·
   rw [if_pos e]; exact cpt_srt h2
  ·
   rw [if_neg e]
   refine List.pairwise_cons.2 ⟨fun b hb => ?_, cpt_srt h2⟩
   have hac : cmpB a c < 0 := by
    have := h1 c List.mem_cons_self
    have : cmpB a c ≠ 0 := fun e' => e (cmpB_zero.1 e')
    omega
   have hb' := cpt_mem.1 hb
   rcases List.mem_cons.1 hb' with rfl | hb'
   ·
    exact hac
   ·
    have hcb := (List.pairwise_cons.1 h2).1 b hb'
    by_cases e2 : c = b
    ·
     subst e2; exact hac
    ·
     exact cmpB_trans hac (by have : cmpB c b ≠ 0 := fun e' => e2 (cmpB_zero.1 e'); omega)
theorem cpt_boards {l : List Spot} {o : List Brd} (h : o.Pairwise (fun a b => cmpB a b ≤ 0)) (hm : ∀ b, b ∈ o ↔ ∃ s ∈ l, brdOf s = b) : cptB o = boardsC l :=
 srtB_same (cpt_srt h) (boards_facts l).1 fun b => by rw [cpt_mem, hm, (boards_facts l).2]
end Go.Proofs.YtpmmgljndceplaaGreat

namespace Go.Proofs.YtpmmgljndceplaaGreat
open Go Go.RowKit

def Mm (l : List En) (R : Int → Spot → Prop) : Prop := (∀ e ∈ l, R e.2.1 e.1 ∧ R e.2.2.1 e.1) ∧ ∀ n s, R n s → ∃ e ∈ l, e.1 = s ∧ e.2.1 ≤ n ∧ n ≤ e.2.2.1
theorem Mm.iff {l : List En} {R R' : Int → Spot → Prop} (h : Mm l R) (hi : ∀ n s, R n s ↔ R' n s) : Mm l R' := ⟨fun e he => ⟨(hi _ _).1 (h.1 e he).1, (hi _ _).1 (h.1 e he).2⟩, fun n s hr => h.2 n s ((hi _ _).2 hr)⟩
theorem den_none {l : List En} {s : Spot} (h : denC l s = none) : ∀ e ∈ l, e.1 ≠ s := fun e he hs => by
 obtain ⟨v, hv⟩ := den_mem (List.mem_map.2 ⟨e, he, hs⟩)
 rw [hv] at h; cases h
theorem den_mm {l : List En} {s : Spot} {v : Mn} (h : denC l s = some v) : ((∃ e ∈ l, e.1 = s ∧ e.2.1 = v.1) ∧ ∃ e ∈ l, e.1 = s ∧ e.2.2.1 = v.2.1) ∧ ∀ e ∈ l, e.1 = s → v.1 ≤ e.2.1 ∧ e.2.2.1 ≤ v.2.1 := by
 induction l generalizing v with
 | nil => cases h
 | cons e l ih =>
  rw [denC] at h
  by_cases he : e.1 = s
  ·
   rw [if_pos he] at h
   cases hd : denC l s with
   | none =>
    rw [hd] at h
    have hv : e.2 = v := Option.some.inj h
    subst hv
    refine ⟨⟨⟨e, List.mem_cons_self, he, rfl⟩, e, List.mem_cons_self, he, rfl⟩, fun e' he' hs => ?_⟩
    rcases List.mem_cons.1 he' with rfl | hm
    ·
     exact ⟨Int.le_refl _, Int.le_refl _⟩
    ·
     exact absurd hs (den_none hd e' hm)
   | some u =>
    rw [hd] at h
    have hv : joinE e.2 u = v := Option.some.inj h
    subst hv
    obtain ⟨⟨⟨e1, h1, h2, h3⟩, e2, g1, g2, g3⟩, h4⟩ := ih hd
    have hj : (joinE e.2 u).1 = min e.2.1 u.1 := rfl
    have hj2 : (joinE e.2 u).2.1 = max e.2.2.1 u.2.1 := rfl
    rw [hj, hj2]
    refine ⟨⟨?_, ?_⟩, fun e' he' hs => ?_⟩
    ·
     by_cases hle : e.2.1 ≤ u.1
     ·
      exact ⟨e, List.mem_cons_self, he, by omega⟩
     ·
      exact ⟨e1, List.mem_cons_of_mem _ h1, h2, by omega⟩
    ·
     by_cases hle : u.2.1 ≤ e.2.2.1
     ·
      exact ⟨e, List.mem_cons_self, he, by omega⟩
     ·
      exact ⟨e2, List.mem_cons_of_mem _ g1, g2, by omega⟩
    ·
     rcases List.mem_cons.1 he' with rfl | hm
     ·
      omega
     ·
      have := h4 e' hm hs; omega
  ·
   rw [if_neg he] at h
   obtain ⟨⟨⟨e1, h1, h2, h3⟩, e2, g1, g2, g3⟩, h4⟩ := ih h
   refine ⟨⟨⟨e1, List.mem_cons_of_mem _ h1, h2, h3⟩, e2, List.mem_cons_of_mem _ g1, g2, g3⟩, fun e' he' hs => ?_⟩
   rcases List.mem_cons.1 he' with rfl | hm
   ·
    exact absurd hs he
   ·
    exact h4 e' hm hs
theorem Mm.norm {l : List En} {R : Int → Spot → Prop} (h : Mm l R) : Mm (normC l) R := by
 refine ⟨fun e he => ?_, fun n s hr => ?_⟩
 ·
  have := (mem_get (norm_nodup l) e).1 he
  rw [get_norm] at this
  obtain ⟨⟨⟨e1, h1, h2, h3⟩, e2, g1, g2, g3⟩, _⟩ := den_mm this
  have r1 := (h.1 e1 h1).1
  have r2 := (h.1 e2 g1).2
  rw [h2, h3] at r1
  rw [g2, g3] at r2
  exact ⟨r1, r2⟩
 ·
  obtain ⟨e, he, hs, hn⟩ := h.2 n s hr
  obtain ⟨v, hv⟩ := den_mem (List.mem_map.2 ⟨e, he, hs⟩)
  have h4 := (den_mm hv).2 e he hs
  exact ⟨(s, v), (mem_get (norm_nodup l) (s, v)).2 (by rw [get_norm]; exact hv), rfl, by show v.1 ≤ n; omega, by show n ≤ v.2.1; omega⟩
theorem Mm.app {l l' : List En} {R R' : Int → Spot → Prop} (h : Mm l R) (h' : Mm l' R') : Mm (l ++ l') (fun n s => R n s ∨ R' n s) := by
 refine ⟨fun e he => ?_, fun n s hr => ?_⟩
 ·
  rcases List.mem_append.1 he with he | he
  ·
   exact ⟨.inl (h.1 e he).1, .inl (h.1 e he).2⟩
  ·
   exact ⟨.inr (h'.1 e he).1, .inr (h'.1 e he).2⟩
 ·
  rcases hr with hr | hr
  ·
   obtain ⟨e, he, h2⟩ := h.2 n s hr
   exact ⟨e, List.mem_append_left _ he, h2⟩
  ·
   obtain ⟨e, he, h2⟩ := h'.2 n s hr
   exact ⟨e, List.mem_append_right _ he, h2⟩
theorem Mm.step {f : Fmt} {l : List En} {R : Int → Spot → Prop} (side : Int) (h : Mm l R) : Mm (stepC f l side) (fun n s => ∃ t, R (n - 1) t ∧ Pt f side t s) := by
 refine Mm.norm ⟨fun u hu => ?_, fun n s hr => ?_⟩
 ·
  obtain ⟨e, he, hu⟩ := List.mem_flatMap.1 hu
  have key : ∀ p : Int, (p = 0 ∨ p = 1) → u ∈ goE f side e p → (∃ t, R (u.2.1 - 1) t ∧ Pt f side t u.1) ∧ ∃ t, R (u.2.2.1 - 1) t ∧ Pt f side t u.1 := fun p hp hu => by
   obtain ⟨h1, h2, h3⟩ := go_out.1 hu
   have e1 : u.2.1 - 1 = e.2.1 := by rw [h3]; show e.2.1 + 1 - 1 = _; omega
   have e2 : u.2.2.1 - 1 = e.2.2.1 := by rw [h3]; show e.2.2.1 + 1 - 1 = _; omega
   exact ⟨⟨e.1, by rw [e1]; exact (h.1 e he).1, p, hp, h1, h2⟩, e.1, by rw [e2]; exact (h.1 e he).2, p, hp, h1, h2⟩
  rcases List.mem_append.1 hu with hu | hu
  ·
   exact key 0 (.inl rfl) hu
  ·
   exact key 1 (.inr rfl) hu
 ·
  obtain ⟨t, ht, p, hp, hsd, hn⟩ := hr
  obtain ⟨e, he, rfl, hle⟩ := h.2 (n - 1) t ht
  refine ⟨upE e s, List.mem_flatMap.2 ⟨e, he, ?_⟩, rfl, by show e.2.1 + 1 ≤ n; omega, by show n ≤ e.2.2.1 + 1; omega⟩
  rcases hp with rfl | rfl
  ·
   exact List.mem_append_left _ (go_out.2 ⟨hsd, hn, rfl⟩)
  ·
   exact List.mem_append_right _ (go_out.2 ⟨hsd, hn, rfl⟩)
theorem Mm.iter {f : Fmt} {l : List En} {R : Int → Spot → Prop} (h : Mm l R) : ∀ k : Nat, Mm (iterC f l k) (fun n s => ∃ t, R (n - (k : Int)) t ∧ Pts f t k s)
 | 0 => h.iff fun n s => ⟨fun hr => ⟨s, by rw [show n - ((0 : Nat) : Int) = n by omega]; exact hr, rfl⟩, fun ⟨t, hr, ht⟩ => by cases ht; rw [show n - ((0 : Nat) : Int) = n by omega] at hr; exact hr⟩
 | k + 1 => ((h.iter k).step (-1)).iff fun n s => ⟨fun ⟨u, ⟨t, hr, hp⟩, h2⟩ => ⟨t, by rw [show n - ((k + 1 : Nat) : Int) = n - 1 - (k : Int) by omega]; exact hr, u, hp, h2⟩, fun ⟨t, hr, u, hp, h2⟩ => ⟨u, ⟨t, by rw [show n - 1 - (k : Int) = n - ((k + 1 : Nat) : Int) by omega]; exact hr, hp⟩, h2⟩⟩
theorem Mm.nil : Mm [] (fun _ _ => False) := ⟨fun e he => (by cases he), fun n s h => h.elim⟩
theorem Mm.missI {f : Fmt} {l : List En} {R : Int → Spot → Prop} (a : Int) (h : Mm l R) : ∀ n, Mm (missI f l a n) (fun m s => ∃ t, ∃ k : Nat, k < n ∧ a ≤ (k : Int) ∧ R (m - (k : Int)) t ∧ Pts f t k s)
 | 0 => Mm.nil.iff fun m s => ⟨fun h => h.elim, fun ⟨t, k, hk, _⟩ => by omega⟩
 | n + 1 => by
  unfold Go.Proofs.YtpmmgljndceplaaGreat.missI
  by_cases ha : a ≤ (n : Int)
  ·
   rw [if_pos ha]
   refine ((h.missI a n).app (h.iter (f := f) n)).iff fun m s => ⟨?_, ?_⟩
   ·
    rintro (⟨t, k, hk, h2⟩ | ⟨t, hr, hp⟩)
    ·
     exact ⟨t, k, by omega, h2⟩
    ·
     exact ⟨t, n, by omega, ha, hr, hp⟩
   ·
    rintro ⟨t, k, hk, h2, h3, h4⟩
    by_cases e : k = n
    ·
     subst e; exact .inr ⟨t, h3, h4⟩
    ·
     exact .inl ⟨t, k, by omega, h2, h3, h4⟩
  ·
   rw [if_neg ha, List.append_nil]
   refine (h.missI a n).iff fun m s => ⟨?_, ?_⟩
   ·
    rintro ⟨t, k, hk, h2⟩
    exact ⟨t, k, by omega, h2⟩
   ·
    rintro ⟨t, k, hk, h2, h3⟩
    exact ⟨t, k, by by_cases e : k = n; (subst e; exact absurd h2 ha); omega, h2, h3⟩
def RelN (f : Fmt) (x : Nt) (t s : Spot) (k : Int) : Prop :=
 if x.kind = 1 then k = 1 ∧ Pt f x.side t s else if x.kind = 2 then ∃ j : Nat, k = (j : Int) ∧ j ≤ x.pair.2.toNat ∧ x.pair.1 ≤ (j : Int) ∧ Pts f t j s else k = 0 ∧ t = s ∧ holdS f x s = true
theorem Mm.after {f : Fmt} {l : List En} {R : Int → Spot → Prop} (x : Nt) (h : Mm l R) : Mm (afterC f l x) (fun n s => ∃ t k, R (n - k) t ∧ RelN f x t s k) := by
 unfold afterC
 by_cases h1 : x.kind = 1
 ·
  rw [if_pos h1]
  refine (h.step x.side).iff fun n s => ?_
  unfold RelN; simp only [if_pos h1]
  exact ⟨fun ⟨t, hr, hp⟩ => ⟨t, 1, hr, rfl, hp⟩, fun ⟨t, k, hr, hk, hp⟩ => by subst hk; exact ⟨t, hr, hp⟩⟩
 ·
  rw [if_neg h1]
  by_cases h2 : x.kind = 2
  ·
   rw [if_pos h2]
   refine (h.missI (f := f) x.pair.1 (x.pair.2.toNat + 1)).norm.iff fun n s => ?_
   unfold RelN; simp only [if_neg h1, if_pos h2]
   constructor
   ·
    rintro ⟨t, k, hk, ha, hr, hp⟩; exact ⟨t, k, hr, k, rfl, by omega, ha, hp⟩
   ·
    rintro ⟨t, k, hr, j, rfl, hk, ha, hp⟩; exact ⟨t, j, by omega, ha, hr, hp⟩
  ·
   rw [if_neg h2]
   unfold RelN; simp only [if_neg h1, if_neg h2]
   refine ⟨fun e he => ?_, fun n s hr => ?_⟩
   ·
    obtain ⟨h3, h4⟩ := List.mem_filter.1 he
    exact ⟨⟨e.1, 0, by rw [Int.sub_zero]; exact (h.1 e h3).1, rfl, rfl, h4⟩, e.1, 0, by rw [Int.sub_zero]; exact (h.1 e h3).2, rfl, rfl, h4⟩
   ·
    obtain ⟨t, k, ht, rfl, rfl, hh⟩ := hr
    rw [Int.sub_zero] at ht
    obtain ⟨e, he, rfl, hle⟩ := h.2 n t ht
    exact ⟨e, List.mem_filter.2 ⟨he, hh⟩, rfl, hle⟩
def Len (f : Fmt) (first : Int) (xs : List Nt) : Nat → Int → Spot → Prop
 | 0, n, s => n = 0 ∧ s ∈ keyC (begC first)
 | j + 1, n, s => ∃ x t k, xs[j]? = some x ∧ Len f first xs j (n - k) t ∧ RelN f x t s k
end Go.Proofs.YtpmmgljndceplaaGreat

namespace Go.Proofs.YtpmmgljndceplaaGreat
open Go Go.RowKit

def spS (f : Fmt) (first : Int) (ps : List Int) : Nat → Spot
 | 0 => ⟨first, [], (0, 0), (0, 0)⟩
 | n + 1 => match ps[n]? with
  | some p => stepS f (spS f first ps n) p
  | none => spS f first ps n
theorem spS_succ {f : Fmt} {first : Int} {ps : List Int} {n : Nat} {p : Int} (h : ps[n]? = some p) : spS f first ps (n + 1) = stepS f (spS f first ps n) p := by rw [spS, h]
def CanP (f : Fmt) (first : Int) (ps : List Int) : Prop := ∀ (n : Nat) (p : Int), ps[n]? = some p → (p = 0 ∨ p = 1) ∧ topS (spS f first ps n) ≠ f.sets
def hitV (f : Fmt) (first : Int) (ps : List Int) (x : Nt) (m n : Nat) : Prop :=
 if x.kind = 1 then n = m + 1 ∧ n ≤ ps.length ∧ (x.side = -1 ∨ ps[m]? = some x.side) else if x.kind = 2 then ((m : Int) + x.pair.1 ≤ n ∧ (n : Int) ≤ m + x.pair.2) ∧ m ≤ n ∧ n ≤ ps.length else n = m ∧ holdS f x (spS f first ps n) = true
def Fit (f : Fmt) (first : Int) (ps : List Int) (xs : List Nt) : Nat → Nat → Prop
 | 0, n => n = 0
 | j + 1, n => ∃ x m, xs[j]? = some x ∧ Fit f first ps xs j m ∧ hitV f first ps x m n
end Go.Proofs.YtpmmgljndceplaaGreat

namespace Go.Proofs.YtpmmgljndceplaaGreat
open Go Go.RowKit

section
variable {f : Fmt} {s : Spot}
end
end Go.Proofs.YtpmmgljndceplaaGreat

namespace Go.Proofs.YtpmmgljndceplaaGreat
open Go Go.RowKit

structure Nt.Ok (x : Nt) : Prop where
 k : 1 ≤ x.kind ∧ x.kind ≤ 7
 s1 : x.kind = 1 → x.side = -1 ∨ x.side = 0 ∨ x.side = 1
 s6 : x.kind = 6 ∨ x.kind = 7 → x.side = 0 ∨ x.side = 1
section
variable {f : Fmt} {s : Spot}
end
theorem beg_in {first b : Int} (hb : b = 0 ∨ b = 1) (h : first = -1 ∨ first = b) : (⟨b, [], (0, 0), (0, 0)⟩ : Spot) ∈ keyC (begC first) := by
 unfold keyC begC
 rw [List.map_append, List.mem_append]
 rcases hb with rfl | rfl
 ·
  exact .inl (by rw [if_pos h]; exact List.mem_cons_self)
 ·
  exact .inr (by rw [if_pos h]; exact List.mem_cons_self)
end Go.Proofs.YtpmmgljndceplaaGreat

namespace Go.Proofs.YtpmmgljndceplaaGreat
open Go Go.RowKit

def fstC (p : Nat → Bool) (n : Nat) : Int := match (List.range n).find? p with
 | some k => k
 | none => -1
theorem fstC_spec (p : Nat → Bool) (n : Nat) : (fstC p n = -1 ∧ ∀ i, i < n → p i = false) ∨ ∃ k : Nat, k < n ∧ fstC p n = k ∧ p k = true ∧ ∀ i, i < k → p i = false := by
 unfold fstC
 cases h : (List.range n).find? p with
 | none =>
  refine .inl ⟨rfl, fun i hi => ?_⟩
  have := List.find?_range_eq_none.1 h i hi
  simpa using this
 | some k =>
  obtain ⟨h1, h2, h3⟩ := List.find?_range_eq_some.1 h
  refine .inr ⟨k, List.mem_range.1 h2, rfl, h1, fun i hi => ?_⟩
  have := h3 i hi
  simpa using this
def badC (f : Fmt) (first : Int) (xs : List Nt) : Int := fstC (fun i => (crowdC f first (xs.take (i + 1))).isEmpty) xs.length
theorem after_nil (f : Fmt) (x : Nt) : afterC f [] x = [] := by
 have : keyC (afterC f [] x) = [] := List.eq_nil_iff_forall_not_mem.2 fun s hs => by
  obtain ⟨t, ht, _⟩ := after_mem.1 hs
  cases ht
 exact List.map_eq_nil_iff.1 this
theorem fold_nil (f : Fmt) (xs : List Nt) : xs.foldl (afterC f) [] = [] := by
 induction xs with
 | nil => rfl
 | cons x xs ih => rw [List.foldl_cons, after_nil, ih]
theorem crowd_nil {f : Fmt} {first : Int} {xs : List Nt} {i : Nat} (h : crowdC f first (xs.take i) = []) : crowdC f first xs = [] := by
 have : xs = xs.take i ++ xs.drop i := (List.take_append_drop i xs).symm
 rw [this]
 unfold crowdC at h ⊢
 rw [List.foldl_append, h, fold_nil]
theorem beg_ne {first : Int} (h : -1 ≤ first ∧ first ≤ 1) : begC first ≠ [] := fun e => by
 have : (⟨if first = 1 then 1 else 0, [], (0, 0), (0, 0)⟩ : Spot) ∈ keyC (begC first) := by
  by_cases h1 : first = 1
  ·
   rw [if_pos h1]; exact beg_in (.inr rfl) (.inr h1)
  ·
   rw [if_neg h1]; exact beg_in (.inl rfl) (by omega)
 rw [e] at this; cases this
theorem bad_none {f : Fmt} {first : Int} {xs : List Nt} (h : -1 ≤ first ∧ first ≤ 1) : badC f first xs = -1 ↔ crowdC f first xs ≠ [] := by
 unfold badC
 rcases fstC_spec (fun i => (crowdC f first (xs.take (i + 1))).isEmpty) xs.length with ⟨h1, h2⟩ | ⟨k, hk, h1, h2, _⟩
 ·
  rw [h1]
  refine ⟨fun _ e => ?_, fun _ => rfl⟩
  cases hl : xs.length with
  | zero =>
   have : xs = [] := List.eq_nil_of_length_eq_zero hl
   subst this
   exact beg_ne h e
  | succ n =>
   have := h2 n (by omega)
   rw [show n + 1 = xs.length from hl.symm, List.take_length, e] at this
   cases this
 ·
  rw [h1]
  refine ⟨fun e => by omega, fun hne => ?_⟩
  exact absurd (crowd_nil (i := k + 1) (List.isEmpty_iff.1 h2)) hne
end Go.Proofs.YtpmmgljndceplaaGreat

namespace Go.Proofs.YtpmmgljndceplaaGreat
open Go Go.RowKit

end Go.Proofs.YtpmmgljndceplaaGreat

namespace Go.Proofs.YtpmmgljndceplaaGreat
open Go Go.RowKit

def mostN (x : Nt) : Int := if x.kind = 1 then 1 else if x.kind = 2 then x.pair.2 else 0
def mostS (xs : List Nt) : Int := (xs.map mostN).sum
end Go.Proofs.YtpmmgljndceplaaGreat

namespace Go.Proofs.YtpmmgljndceplaaGreat
open Go Go.RowKit

section
variable {f : Fmt} {T : Cs} {m : MS} {K : Nat} {side : Int}
theorem rst_inv (h : Rst f T m K) : m.Inv ∨ (0 ≤ m.winner ∧ max (wonV m.st).1 (wonV m.st).2 = f.sets) := by
 rcases h.rch.inv with hi | ⟨hd, h1, _⟩
 ·
  exact .inl hi
 ·
  exact .inr ⟨by have := hd.w; omega, by rw [← h.mf]; exact h1⟩
theorem rst_done (h : Rst f T m K) (hd : 0 ≤ m.winner) : (T.1.1 ≤ m.balls ∧ m.balls ≤ T.1.2) ∧ T.2.1 ≤ m.st.length ∧ (m.st.length : Int) ≤ T.2.2 := by
 have ht := h.tot
 rw [tot_done hd] at ht
 unfold InC shC zC at ht
 dsimp only at ht
 omega
theorem play_rst (hf : f.Ok) (hb : Bdd f) {first : Int} {xs : List Int} : ∀ {k : Nat} {m : MS}, playTo f first xs k = some m → Rst f (restC f noBrd) m k
 | 0, m, h => by
  simp only [playTo, Option.some.injEq] at h
  subst h
  exact rst_begin hf first
 | k + 1, m, h => by
  rw [playTo] at h
  cases h1 : playTo f first xs k with
  | none => rw [h1] at h; cases h
  | some m0 =>
   cases h2 : xs[k]? with
   | none => rw [h1, h2] at h; cases h
   | some s =>
    rw [h1, h2] at h
    dsimp only at h
    have hr := play_rst hf hb h1
    cases hbb : sideBad s || decide (0 ≤ m0.winner)
    ·
     rw [hbb] at h
     obtain rfl := Option.some.inj h
     simp only [Bool.or_eq_false_iff, decide_eq_false_iff_not] at hbb
     have hs : s = 0 ∨ s = 1 := by
      have := hbb.1
      unfold sideBad at this
      simp only [Bool.and_eq_false_iff, Bool.not_eq_false', decide_eq_true_eq] at this
      omega
     rcases rst_inv hr with hi | ⟨hd, _⟩
     ·
      exact rst_step hf hb hr hi hs
     ·
      exact absurd hd hbb.2
    ·
     rw [hbb] at h; cases h
end
end Go.Proofs.YtpmmgljndceplaaGreat

namespace Go.Proofs.YtpmmgljndceplaaGreat
open Go Go.RowKit

def playersV (f : Fmt) : Int := bif f.dbl then 4 else 2
def begB (b : Brd) : Bool := decide (0 < (b.st.length : Int)) || !isZ b.g || !isZ b.p
def onceV (b : Brd) : Int := bif begB b then 0 else 1
def timesV (s : Pr) (n : Int) : Pr := (s.1 * n, s.2 * n)
def ndV (each tow fra : Int) (x : Fx) (item : Int) : Pr :=
 bif decide (item = 0) then timesV ((restC x.f x.b).1.1 + onceV x.b, (restC x.f x.b).1.2 + onceV x.b) each
 else bif decide (item = 1) then timesV (restC x.f x.b).2 (tow * playersV x.f) else timesV (onceV x.b, onceV x.b) (fra * playersV x.f)
theorem mul_rng {a b A B : Int} (ha : 0 ≤ a ∧ a ≤ A) (hb : 0 ≤ b ∧ b ≤ B) : 0 ≤ a * b ∧ a * b ≤ A * B :=
 ⟨Int.mul_nonneg ha.1 hb.1, Int.mul_le_mul ha.2 hb.2 hb.1 (Int.le_trans ha.1 ha.2)⟩
theorem once_rng (b : Brd) : 0 ≤ onceV b ∧ onceV b ≤ 1 := by unfold onceV; cases begB b <;> decide
theorem players_rng (f : Fmt) : 2 ≤ playersV f ∧ playersV f ≤ 4 := by unfold playersV; cases f.dbl <;> decide
theorem csb_rest {f : Fmt} {b : Brd} (h : checkE f b = 0) : CsB (restC f b) 86 := by
 obtain ⟨hf, hbo, hari, hhi⟩ := check_ok h
 obtain ⟨-, hwo, hw3⟩ := arises_facts hf hbo hari
 unfold restC
 cases hov : overV f (wonV b.st)
 ·
  rw [cond_false]
  rcases hw3 with h3 | ⟨_, h4, _⟩
  ·
   rw [h3] at hov; cases hov
  ·
   rw [over_won hwo, Bool.or_eq_false_iff, decide_eq_false_iff_not, decide_eq_false_iff_not] at hov
   unfold WonOk at hwo
   exact csb_bump (csb_P hf ⟨by omega, h4⟩) _ _
 ·
  exact csb_zero (by omega)
theorem nd_rng {each tow fra : Int} {x : Fx} {item : Int} (hk : (0 ≤ each ∧ each ≤ 20) ∧ (0 ≤ tow ∧ tow ≤ 20) ∧ 0 ≤ fra ∧ fra ≤ 20) (h : checkE x.f x.b = 0) : 0 ≤ (ndV each tow fra x item).1 ∧ (ndV each tow fra x item).1 ≤ (ndV each tow fra x item).2 ∧ (ndV each tow fra x item).2 ≤ 10000 := by
 have h1 := csb_rest h
 have h2 := once_rng x.b
 have h3 := players_rng x.f
 unfold CsB at h1
 have m1 := mul_rng (a := tow) (b := playersV x.f) (A := 20) (B := 4) (by omega) (by omega)
 have m2 := mul_rng (a := fra) (b := playersV x.f) (A := 20) (B := 4) (by omega) (by omega)
 unfold ndV timesV
 cases decide (item = 0)
 ·
  cases decide (item = 1)
  ·
   have m3 := mul_rng (a := onceV x.b) (b := fra * playersV x.f) (A := 1) (B := 80) h2 m2
   simp only [cond_false]; omega
  ·
   have m3 := mul_rng (a := (restC x.f x.b).2.1) (b := tow * playersV x.f) (A := 86) (B := 80) (by omega) m1
   have m4 := mul_rng (a := (restC x.f x.b).2.2) (b := tow * playersV x.f) (A := 86) (B := 80) (by omega) m1
   have m5 := Int.mul_le_mul_of_nonneg_right h1.2.2.1 m1.1
   simp only [cond_false, cond_true]; omega
 ·
  have m3 := mul_rng (a := (restC x.f x.b).1.1 + onceV x.b) (b := each) (A := 87) (B := 20) (by omega) (by omega)
  have m4 := mul_rng (a := (restC x.f x.b).1.2 + onceV x.b) (b := each) (A := 87) (B := 20) (by omega) (by omega)
  have m5 := Int.mul_le_mul_of_nonneg_right (show (restC x.f x.b).1.1 + onceV x.b ≤ (restC x.f x.b).1.2 + onceV x.b by omega) hk.1.1
  simp only [cond_true]; omega
theorem over_beg {f : Fmt} {b : Brd} (hf : f.Ok) (h : overV f (wonV b.st) = true) : begB b = true := by
 have hs0 := hf.s0
 unfold begB
 cases hl : b.st.length with
 | zero =>
  exfalso
  have hw : wonV b.st = (0, 0) := by unfold wonV; rw [hl]; rfl
  rw [hw] at h
  have h2 : max (0 : Int) 0 = f.sets := by unfold overV at h; exact of_decide_eq_true h
  have h3 : max (0 : Int) 0 = 0 := rfl
  omega
 | succ k => rw [decide_eq_true (by omega)]; rfl
theorem beg_prog (b : Brd) : ((!isZ b.g || !isZ b.p) || decide (0 < (b.st.length : Int))) = begB b := by
 unfold begB
 cases isZ b.g <;> cases isZ b.p <;> cases decide (0 < (b.st.length : Int)) <;> rfl
theorem C_balls_times (s : Pr) (n : Int) (h1 : -1000000000 ≤ s.1 * n ∧ s.1 * n ≤ 1000000000) (h2 : -1000000000 ≤ s.2 * n ∧ s.2 * n ≤ 1000000000) (w : World) : C0 Tryz.prog 122 [pv s, .int .i64 n] w (pv (timesV s n)) := by
 refine ⟨en Tryz.func122 Tryz.ntmps122 (St.init w) (h := fun F => ?_)⟩
 refine sr ?_
 refine bxA (h := fun b0 => ?_)
 refine al (h := fun b1 => ?_)
 refine nr ?_
 iterate 9 refine ww ?_
 first | refine stA (h := ?_) | refine stEA (h := ?_)
 refine nq ?_
 refine rtn ?_
 refine q_ret (hR := ?_)
 exact fun w hS => ⟨rfl, hS.sub slz_⟩
abbrev nd6 (each tow fra : Int) (x : Fx) : List Value := [.int .i64 (ndV each tow fra x 0).1, .int .i64 (ndV each tow fra x 0).2, .int .i64 (ndV each tow fra x 1).1, .int .i64 (ndV each tow fra x 1).2, .int .i64 (ndV each tow fra x 2).1, .int .i64 (ndV each tow fra x 2).2]
set_option maxRecDepth 100000 in
theorem C_balls_needs (each tow fra : Int) (x : Fx) (hk : (0 ≤ each ∧ each ≤ 20) ∧ (0 ≤ tow ∧ tow ≤ 20) ∧ 0 ≤ fra ∧ fra ≤ 20) (hc : checkE x.f x.b = 0) (w : World) (h : Rd w x.A 2 x.b.st.length (encP x.b.st)) : C0 Tryz.prog 100 [.agg #[.int .i64 each, .int .i64 tow, .int .i64 fra], x.val] w (.agg (nd6 each tow fra x).toArray) := by
 obtain ⟨hf, hbo, hari, hhi⟩ := check_ok hc
 have h1 := csb_rest hc
 have h2 := once_rng x.b
 have h3 := players_rng x.f
 unfold CsB at h1
 have m1 := mul_rng (a := tow) (b := playersV x.f) (A := 20) (B := 4) (by omega) (by omega)
 have m2 := mul_rng (a := fra) (b := playersV x.f) (A := 20) (B := 4) (by omega) (by omega)
 have m3 := mul_rng (a := onceV x.b) (b := fra * playersV x.f) (A := 1) (B := 80) h2 m2
 have m4 := mul_rng (a := (restC x.f x.b).2.1) (b := tow * playersV x.f) (A := 86) (B := 80) (by omega) m1
 have m5 := mul_rng (a := (restC x.f x.b).2.2) (b := tow * playersV x.f) (A := 86) (B := 80) (by omega) m1
 have m6 := mul_rng (a := (restC x.f x.b).1.1 + onceV x.b) (b := each) (A := 87) (B := 20) (by omega) (by omega)
 have m7 := mul_rng (a := (restC x.f x.b).1.2 + onceV x.b) (b := each) (A := 87) (B := 20) (by omega) (by omega)
 refine ⟨en Tryz.func100 Tryz.ntmps100 ((St.init w).share (e := .ro x.A 2 x.b.st.length (encP x.b.st)) h rfl rfl rfl) (h := fun F => ?_)⟩
 refine sr ?_
 refine bxA (h := fun b0 => ?_)
 refine bxA (h := fun b1 => ?_)
 refine al (h := fun b2 => ?_)
 refine nr ?_
 iterate 4 refine ww ?_
 refine cl0 (hc := fun w hS => C_balls_open x.f x.b hf (bdd_high hf hhi).1 hbo hari x.A x.b.st.length x.c w (hS.get rdz_)) (h := ?_)
 iterate 3 refine ww ?_
 refine al (h := fun b3 => ?_)
 first | refine stA (h := ?_) | refine stEA (h := ?_)
 refine ww ?_
 refine nq ?_
 refine sq ?_
 refine sr ?_
 refine ww ?_
 refine nq ?_
 refine czz (fun h0 => ?_) fun h0 => ?_
 ·
  have hov : overV x.f (wonV x.b.st) = true := h0
  have hz : onceV x.b = 0 := by rw [onceV, over_beg hf hov]; rfl
  have hr : restC x.f x.b = zC := by rw [restC, hov]; rfl
  have hE : nd6 each tow fra x = [.int .i64 0, .int .i64 0, .int .i64 0, .int .i64 0, .int .i64 0, .int .i64 0] := by
   have hn : ∀ i : Int, ndV each tow fra x i = (0, 0) := fun i => by
    unfold ndV timesV
    rw [hz, hr]
    cases decide (i = 0) <;> cases decide (i = 1) <;> simp [zC]
   simp only [nd6, hn]
  refine sr ?_
  refine ww ?_
  first | refine stA (h := ?_) | refine stEA (h := ?_)
  refine nq ?_
  refine rtn ?_
  refine q_then_ret ?_
  refine q_ret (hR := ?_)
  rw [hE]
  exact fun w hS => ⟨rfl, hS.sub slz_⟩
 ·
  refine skp ?_
  refine q_seq ?_
  refine sr ?_
  refine ww ?_
  refine nq ?_
  refine ct (X := Unit) (fun _ => True) (fun _ => [(2, .pointer (some ⟨b0, 0, none⟩)), (3, .pointer (some ⟨b1, 0, none⟩)), (4, .pointer (some ⟨b2, 0, none⟩)), (5, .pointer (some ⟨b3, 0, none⟩)), (7, .int .i64 (playersV x.f))]) (fun _ => [.blk b3 125 (ccs (restC x.f x.b)), .blk b0 23 [.int .i64 each, .int .i64 tow, .int .i64 fra], .blk b1 42 x.enc, .blk b2 182 [.int .i64 0, .int .i64 0, .int .i64 0, .int .i64 0, .int .i64 0, .int .i64 0], .ro x.A 2 x.b.st.length (encP x.b.st)]) (h1 := ?_) (h2 := ?_)
  ·
   refine sr ?_
   iterate 3 refine ww ?_
   refine nq ?_
   refine czz (fun h1 => ?_) fun h1 => ?_
   ·
    have hp : playersV x.f = 4 := by rw [playersV, h1]; rfl
    refine rg ?_
    refine ww ?_
    refine nl ?_
    rw [hp]
    exact ctn () trivial sbz_ slz_
   ·
    have hp : playersV x.f = 2 := by rw [playersV, h1]; rfl
    refine skp ?_
    rw [hp]
    exact ctn () trivial sbz_ slz_
  rintro ⟨⟩ -
  refine sr ?_
  refine ww ?_
  refine nq ?_
  refine ct (X := Unit) (fun _ => True) (fun _ => [(2, .pointer (some ⟨b0, 0, none⟩)), (3, .pointer (some ⟨b1, 0, none⟩)), (4, .pointer (some ⟨b2, 0, none⟩)), (5, .pointer (some ⟨b3, 0, none⟩)), (7, .int .i64 (playersV x.f)), (8, .int .i64 (onceV x.b))]) (fun _ => [.blk b3 125 (ccs (restC x.f x.b)), .blk b0 23 [.int .i64 each, .int .i64 tow, .int .i64 fra], .blk b1 42 x.enc, .blk b2 182 [.int .i64 0, .int .i64 0, .int .i64 0, .int .i64 0, .int .i64 0, .int .i64 0], .ro x.A 2 x.b.st.length (encP x.b.st)]) (h1 := ?_) (h2 := ?_)
  ·
   refine sr ?_
   iterate 2 refine ww ?_
   refine cl0 (hc := fun w hS => C_balls_begun x.b x.A x.b.st.length x.c w) (h := ?_)
   rw [beg_prog]
   iterate 5 refine ww ?_
   refine nr ?_
   refine ww ?_
   refine nq ?_
   refine czz (fun h2 => ?_) fun h2 => ?_
   ·
    have hz : onceV x.b = 0 := by rw [onceV, h2]; rfl
    refine rg ?_
    refine ww ?_
    refine nl ?_
    rw [hz]
    exact ctn () trivial sbz_ slz_
   ·
    have hz : onceV x.b = 1 := by rw [onceV, h2]; rfl
    refine skp ?_
    rw [hz]
    exact ctn () trivial sbz_ slz_
  rintro ⟨⟩ -
  refine sr ?_
  iterate 13 refine ww ?_
  refine cl0 (hc := fun w hS => C_balls_times ((restC x.f x.b).1.1 + onceV x.b, (restC x.f x.b).1.2 + onceV x.b) each (by dsimp only; omega) (by dsimp only; omega) w) (h := ?_)
  refine wy ixA ?_
  first | refine stA (h := ?_) | refine stEA (h := ?_)
  refine nr ?_
  iterate 6 refine ww ?_
  refine cl0 (hc := fun w hS => C_balls_times (restC x.f x.b).2 (tow * playersV x.f) (by omega) (by omega) w) (h := ?_)
  refine wy ixA ?_
  first | refine stA (h := ?_) | refine stEA (h := ?_)
  refine nr ?_
  iterate 7 refine ww ?_
  refine cl0 (hc := fun w hS => C_balls_times (onceV x.b, onceV x.b) (fra * playersV x.f) (by dsimp only; omega) (by dsimp only; omega) w) (h := ?_)
  refine wy ixA ?_
  first | refine stA (h := ?_) | refine stEA (h := ?_)
  refine nr ?_
  refine ww ?_
  first | refine stA (h := ?_) | refine stEA (h := ?_)
  refine nq ?_
  refine rtn ?_
  refine q_ret (hR := ?_)
  exact fun w hS => ⟨rfl, hS.sub slz_⟩
theorem range_form (f : Fmt) : ∃ lo hi pts : Int, rangeR f = [.agg #[.int .i64 lo, .int .i64 hi], .int .i64 pts, .int .i64 (chkF f)] ∧ (chkF f = 0 → hi = (rangeE f).high ∧ lo = (rangeE f).low ∧ pts = (rangeE f).pts) := by
 cases hc : !decide (chkF f = 0)
 ·
  have h0 : chkF f = 0 := by simpa using hc
  exact ⟨_, _, _, by rw [rangeR_ok hc, h0], fun _ => ⟨rfl, rfl, rfl⟩⟩
 ·
  have h1 : decide (chkF f = 0) = false := by simpa using hc
  exact ⟨0, 0, 0, by rw [rangeR, h1]; rfl, fun h => by rw [h] at h1; cases h1⟩
theorem check_chk {f : Fmt} {b : Brd} (h : checkE f b = 0) : (!decide (chkF f = 0)) = false := by
 unfold checkE at h
 cases hc : !decide (chkF f = 0)
 ·
  rfl
 ·
  rw [hc, cond_true] at h
  rw [h] at hc; cases hc
theorem C_ref9_isFixture (x : Fx) (w : World) (h : Rd w x.A 2 x.b.st.length (encP x.b.st)) (hnc : x.b.st.length ≤ x.c) (hn : x.b.st.length ≤ 1000) : C0 Tryz.prog 21 [x.val] w (.bool (fxOk x)) := by
 obtain ⟨lo, hi, pts, hR, hRf⟩ := range_form x.f
 obtain ⟨is, e, hA, hL, hfa⟩ := check_form x.f x.b
 refine ⟨en Tryz.func21 Tryz.ntmps21 ((St.init w).share (e := .ro x.A 2 x.b.st.length (encP x.b.st)) h rfl rfl rfl) (h := fun F => ?_)⟩
 refine sr ?_
 refine bxA (h := fun b0 => ?_)
 refine ww ?_
 refine nq ?_
 refine sq ?_
 refine sr ?_
 iterate 2 refine ww ?_
 refine cl0 (hc := fun w hS => C_ref9_within _ _ _ w) (h := ?_)
 refine ww ?_
 refine nq ?_
 refine czz (fun h0 => ?_) fun h0 => ?_
 ·
  have hE : fxOk x = false := by rw [fxOk, h0]; rfl
  refine sr ?_
  refine ww ?_
  refine nq ?_
  refine rtn ?_
  refine q_then_ret ?_
  refine q_ret (hR := ?_)
  rw [hE]
  exact fun w hS => ⟨rfl, hS.sub slz_⟩
 ·
  have hd := h0
  refine skp ?_
  refine q_seq ?_
  refine sr ?_
  iterate 2 refine ww ?_
  refine cl0 (hc := fun w hS => C_ref1_Range x.f w) (h := ?_)
  rw [hR]
  iterate 4 refine ww ?_
  refine al (h := fun b1 => ?_)
  first | refine stA (h := ?_) | refine stEA (h := ?_)
  iterate 2 refine ww ?_
  refine nq ?_
  refine sq ?_
  refine sr ?_
  iterate 3 refine ww ?_
  apply brOr 4 21 25 (by exact rfl)
  ·
   intro hb1
   iterate 3 refine uw ?_
   refine ww ?_
   exact mg (by repeat (first | exact trivial | refine ⟨rfl, ?_⟩ | refine ⟨by rw [hb1]; rfl, ?_⟩)) slz_
  ·
   intro hb1
   repeat (first | refine uz ?_ | refine kz ?_ | refine wz ?_)
   exact mg (by repeat (first | exact trivial | refine ⟨rfl, ?_⟩ | refine ⟨by rw [hb1]; rfl, ?_⟩)) slz_
  refine nq ?_
  refine czz (fun h2 => ?_) fun h2 => ?_
  ·
   have hne : ¬ checkE x.f x.b = 0 := fun h0 => by
    have hq1 := check_chk h0
    obtain ⟨-, -, -, hq⟩ := check_ok h0
    have h3 := (hRf (by simpa using hq1)).1
    have h' : (!decide (chkF x.f = 0) || decide (hi < 0)) = true := h2
    rw [hq1, Bool.false_or, decide_eq_true_eq, h3] at h'
    exact hq h'
   have hE : fxOk x = false := by rw [fxOk, hd, decide_eq_false hne]; rfl
   refine sr ?_
   refine ww ?_
   refine nq ?_
   refine rtn ?_
   refine q_then_ret ?_
   refine q_ret (hR := ?_)
   rw [hE]
   exact fun w hS => ⟨rfl, hS.sub slz_⟩
  ·
   have h' : (!decide (chkF x.f = 0) || decide (hi < 0)) = false := h2
   rw [Bool.or_eq_false_iff] at h'
   have h3 := (hRf (by simpa using h'.1)).1
   rw [h3] at h'
   rw [h'.2, cond_false] at hL
   have hE : fxOk x = (is && decide (e = 0)) := by
    rw [fxOk, hd, hL, Bool.false_or, Bool.not_not]
    cases he : decide (e = 0)
    ·
     rw [show decide ((bif !false then e else bif !is then (12 : Int) else 0) = 0) = decide (e = 0) from rfl, he, Bool.and_false]
    ·
     cases is <;> rfl
   refine skp ?_
   refine q_seq ?_
   refine sr ?_
   iterate 4 refine ww ?_
   refine cl0 (hc := fun w hS => C_ref1_Arises x.f x.b x.A x.b.st.length x.c hnc w (hS.get rdz_) hn) (h := ?_)
   rw [hA]
   iterate 5 refine ww ?_
   refine nr ?_
   iterate 2 refine ww ?_
   apply brAnd 3 35 38 (by exact rfl)
   ·
    intro hb3
    iterate 2 refine uw ?_
    refine ww ?_
    exact mg (by repeat (first | exact trivial | refine ⟨rfl, ?_⟩ | refine ⟨by rw [hb3]; rfl, ?_⟩)) slz_
   ·
    intro hb3
    repeat (first | refine uz ?_ | refine kz ?_ | refine wz ?_)
    exact mg (by repeat (first | exact trivial | refine ⟨rfl, ?_⟩ | refine ⟨by rw [hb3]; rfl, ?_⟩)) slz_
   refine ww ?_
   refine nq ?_
   refine rtn ?_
   refine q_ret (hR := ?_)
   rw [hE]
   exact fun w hS => ⟨rfl, hS.sub slz_⟩
set_option maxRecDepth 100000 in
set_option maxHeartbeats 2000000 in
theorem C_ref9_Check (d : Dp) (a : DA) (w : World) (h : DpR w d a) (hsm : ∀ x ∈ d.fx, x.b.st.length ≤ 1000) : C0 Tryz.prog 6 [d.val a] w (.int .i64 (depE d)) := by
 have hsc := h.sc
 have hfc := h.fc
 have hcc := h.cc
 refine ⟨en Tryz.func6 Tryz.ntmps6 ((((St.init w).share (e := .ro a.sA 1 d.st.length (encI d.st)) h.s rfl rfl rfl).share (e := .ro a.fA 16 d.fx.length (d.fx.map Fx.enc)) h.f rfl rfl rfl).share (e := .ro a.cA 3 d.cr.length (d.cr.map Cx.enc)) h.c rfl rfl rfl) (h := fun F => ?_)⟩
 refine sr ?_
 refine bxA (h := fun b0 => ?_)
 refine ww ?_
 refine nq ?_
 refine sq ?_
 refine sr ?_
 iterate 3 refine ww ?_
 refine cl0 (hc := fun w hS => C_ref9_within _ _ _ w) (h := ?_)
 iterate 2 refine ww ?_
 apply brOr 6 12 18 (by exact rfl)
 ·
  intro hb0
  iterate 3 refine uw ?_
  refine uz ?_
  refine cl0 (hc := fun w hS => C_ref9_within _ _ _ w) (h := ?_)
  refine uw ?_
  refine ww ?_
  exact mg (by repeat (first | exact trivial | refine ⟨rfl, ?_⟩ | refine ⟨by rw [hb0]; rfl, ?_⟩)) slz_
 ·
  intro hb0
  repeat (first | refine uz ?_ | refine kz ?_ | refine wz ?_)
  exact mg (by repeat (first | exact trivial | refine ⟨rfl, ?_⟩ | refine ⟨by rw [hb0]; rfl, ?_⟩)) slz_
 refine ww ?_
 apply brOr 6 19 25 (by exact rfl)
 ·
  intro hb1
  iterate 3 refine uw ?_
  refine uz ?_
  refine cl0 (hc := fun w hS => C_ref9_within _ _ _ w) (h := ?_)
  refine uw ?_
  refine ww ?_
  exact mg (by repeat (first | exact trivial | refine ⟨rfl, ?_⟩ | refine ⟨by rw [hb1]; rfl, ?_⟩)) slz_
 ·
  intro hb1
  repeat (first | refine uz ?_ | refine kz ?_ | refine wz ?_)
  exact mg (by repeat (first | exact trivial | refine ⟨rfl, ?_⟩ | refine ⟨by rw [hb1]; rfl, ?_⟩)) slz_
 refine ww ?_
 apply brOr 5 26 31 (by exact rfl)
 ·
  intro hb2
  iterate 4 refine uw ?_
  refine ww ?_
  exact mg (by repeat (first | exact trivial | refine ⟨rfl, ?_⟩ | refine ⟨by rw [hb2]; rfl, ?_⟩)) slz_
 ·
  intro hb2
  repeat (first | refine uz ?_ | refine kz ?_ | refine wz ?_)
  exact mg (by repeat (first | exact trivial | refine ⟨rfl, ?_⟩ | refine ⟨by rw [hb2]; rfl, ?_⟩)) slz_
 refine ww ?_
 apply brOr 5 32 37 (by exact rfl)
 ·
  intro hb3
  iterate 4 refine uw ?_
  refine ww ?_
  exact mg (by repeat (first | exact trivial | refine ⟨rfl, ?_⟩ | refine ⟨by rw [hb3]; rfl, ?_⟩)) slz_
 ·
  intro hb3
  repeat (first | refine uz ?_ | refine kz ?_ | refine wz ?_)
  exact mg (by repeat (first | exact trivial | refine ⟨rfl, ?_⟩ | refine ⟨by rw [hb3]; rfl, ?_⟩)) slz_
 refine ww ?_
 apply brOr 5 38 43 (by exact rfl)
 ·
  intro hb4
  iterate 4 refine uw ?_
  refine ww ?_
  exact mg (by repeat (first | exact trivial | refine ⟨rfl, ?_⟩ | refine ⟨by rw [hb4]; rfl, ?_⟩)) slz_
 ·
  intro hb4
  repeat (first | refine uz ?_ | refine kz ?_ | refine wz ?_)
  exact mg (by repeat (first | exact trivial | refine ⟨rfl, ?_⟩ | refine ⟨by rw [hb4]; rfl, ?_⟩)) slz_
 refine nq ?_
 refine czz (fun h5 => ?_) fun h5 => ?_
 ·
  have hE : depE d = 90 := by
   cases hk : kitB d
   ·
    exact dep_kit hk
   ·
    refine dep_len ?_
    rw [lenB]
    rw [kitB, Bool.and_eq_true, Bool.and_eq_true] at hk
    rw [hk.1.1, hk.1.2, hk.2] at h5
    rw [show (!decide ((d.st.length : Int) = 3) || decide (30 < (d.fx.length : Int)) || decide (30 < (d.cr.length : Int))) = true from h5]; rfl
  refine sr ?_
  refine ww ?_
  refine nq ?_
  refine rtn ?_
  refine q_then_ret ?_
  refine q_ret (hR := ?_)
  rw [hE]
  exact fun w hS => ⟨rfl, hS.sub slz_⟩
 ·
  simp only [Bool.or_eq_false_iff, Bool.not_eq_false', decide_eq_true_eq, decide_eq_false_iff_not] at h5
  have hkit : kitB d = true := by rw [kitB, h5.1.1.1.1.1, h5.1.1.1.1.2, h5.1.1.1.2]; rfl
  have hln : lenB d = true := by rw [lenB, decide_eq_true h5.1.1.2, decide_eq_false h5.1.2, decide_eq_false h5.2]; rfl
  have hl3 : d.st.length = 3 := by have := h5.1.1.2; omega
  refine skp ?_
  refine q_seq ?_
  refine sq ?_
  refine sr ?_
  refine ww ?_
  refine nq ?_
  refine bk ?_
  refine lp (X := Nat) (I := fun k => k ≤ 3 ∧ Upto d.st (fun n => wi n 0 99999) k) (le := fun k => [(1, .pointer (some ⟨b0, 0, none⟩)), (3, .int .i64 k)]) (Le := fun _ => [.blk b0 28 (d.cells a), .ro a.sA 1 d.st.length (encI d.st), .ro a.fA 16 d.fx.length (d.fx.map Fx.enc), .ro a.cA 3 d.cr.length (d.cr.map Cx.enc)]) (μ := fun k => 3 - k) 0 ⟨Nat.zero_le _, upto_zero⟩ sbz_ slz_ (fun k hk => ?_)
  obtain ⟨hk0, hku⟩ := hk
  refine sq ?_
  refine sr ?_
  iterate 2 refine ww ?_
  refine nq ?_
  refine czz (fun h6 => ?_) fun h6 => ?_
  ·
   have hk3 : k < 3 := by have := of_decide_eq_true h6; omega
   obtain ⟨m, hm⟩ : ∃ m, d.st[k]? = some m := ⟨_, List.getElem?_eq_getElem (by omega)⟩
   refine skp ?_
   refine q_seq ?_
   refine sq ?_
   refine bk ?_
   refine sr ?_
   iterate 3 refine ww ?_
   refine wy (ix (A := a.sA) (m := d.st.length)) ?_
   refine wy (ldE (A := a.sA) (hk := encI_at hm)) ?_
   refine cl0 (hc := fun w hS => C_ref9_within _ _ _ w) (h := ?_)
   refine ww ?_
   refine nq ?_
   refine czz (fun h7 => ?_) fun h7 => ?_
   ·
    have hE : depE d = 90 := dep_st (all_no hm (by simpa using h7))
    refine sr ?_
    refine ww ?_
    refine nq ?_
    refine rtn ?_
    refine q_blk_ret ?_
    iterate 2 refine q_then_ret ?_
    refine q_blk_ret ?_
    refine q_then_ret ?_
    refine q_ret (hR := ?_)
    rw [hE]
    exact fun w hS => ⟨rfl, hS.sub slz_⟩
   ·
    have hkn := upto_succ hku hm (by simpa using h7)
    refine skp ?_
    refine q_blk_norm ?_
    refine q_seq ?_
    refine rg ?_
    iterate 3 refine ww ?_
    refine nl ?_
    refine rn (x := k) (k + 1) ⟨by omega, hkn⟩ (by omega) sbz_ slz_
  ·
   have hk3 : k = 3 := by have := of_decide_eq_false h6; omega
   have hst : stB d = true := all_to fun i x hi => hku i x (by omega)
   refine et ?_
   iterate 2 refine q_then_exit ?_
   refine q_blk_hit ?_
   refine q_seq ?_
   refine sq ?_
   refine sr ?_
   refine ww ?_
   refine nq ?_
   refine bk ?_
   refine lp (X := Nat) (I := fun j => j ≤ d.fx.length ∧ Upto d.fx fxOk j) (le := fun j => [(1, .pointer (some ⟨b0, 0, none⟩)), (4, .int .i64 j)]) (Le := fun _ => [.blk b0 28 (d.cells a), .ro a.sA 1 d.st.length (encI d.st), .ro a.fA 16 d.fx.length (d.fx.map Fx.enc), .ro a.cA 3 d.cr.length (d.cr.map Cx.enc)]) (μ := fun j => d.fx.length - j) 0 ⟨Nat.zero_le _, upto_zero⟩ sbz_ slz_ (fun j hj => ?_)
   obtain ⟨hj0, hju⟩ := hj
   refine sq ?_
   refine sr ?_
   iterate 5 refine ww ?_
   refine nq ?_
   refine czz (fun h8 => ?_) fun h8 => ?_
   ·
    have hkn2 : j < d.fx.length := by have := of_decide_eq_true h8; omega
    obtain ⟨x, hx⟩ : ∃ x, d.fx[j]? = some x := ⟨_, List.getElem?_eq_getElem hkn2⟩
    refine skp ?_
    refine q_seq ?_
    refine sq ?_
    refine bk ?_
    refine sr ?_
    iterate 3 refine ww ?_
    refine wy (ix (A := a.fA) (m := d.fx.length)) ?_
    refine wy (ldEW (A := a.fA) (hk := map_at hx)) ?_
    refine cl0 (hc := fun w hS => C_ref9_isFixture x w ((hS.old (h.x x (List.mem_of_getElem? hx)).r).get) (h.x x (List.mem_of_getElem? hx)).n (hsm x (List.mem_of_getElem? hx))) (h := ?_)
    refine ww ?_
    refine nq ?_
    refine czz (fun h9 => ?_) fun h9 => ?_
    ·
     have hE : depE d = 90 := dep_fx (all_no hx (by simpa using h9))
     refine sr ?_
     refine ww ?_
     refine nq ?_
     refine rtn ?_
     refine q_blk_ret ?_
     iterate 2 refine q_then_ret ?_
     refine q_blk_ret ?_
     refine q_then_ret ?_
     refine q_ret (hR := ?_)
     rw [hE]
     exact fun w hS => ⟨rfl, hS.sub slz_⟩
    ·
     have hjn := upto_succ hju hx (by simpa using h9)
     refine skp ?_
     refine q_blk_norm ?_
     refine q_seq ?_
     refine rg ?_
     iterate 3 refine ww ?_
     refine nl ?_
     refine rn (x := j) (j + 1) ⟨hkn2, hjn⟩ (by omega) sbz_ slz_
   ·
    have hkn2 : j = d.fx.length := by have := of_decide_eq_false h8; omega
    have hfx : fxB d = true := all_to fun i x hi => hju i x (by omega)
    refine et ?_
    iterate 2 refine q_then_exit ?_
    refine q_blk_hit ?_
    refine q_seq ?_
    refine sq ?_
    refine sr ?_
    refine ww ?_
    refine nq ?_
    refine bk ?_
    refine lp (X := Nat) (I := fun i => i ≤ d.cr.length ∧ Upto d.cr crOk i) (le := fun i => [(1, .pointer (some ⟨b0, 0, none⟩)), (5, .int .i64 i)]) (Le := fun _ => [.blk b0 28 (d.cells a), .ro a.sA 1 d.st.length (encI d.st), .ro a.fA 16 d.fx.length (d.fx.map Fx.enc), .ro a.cA 3 d.cr.length (d.cr.map Cx.enc)]) (μ := fun i => d.cr.length - i) 0 ⟨Nat.zero_le _, upto_zero⟩ sbz_ slz_ (fun i hi => ?_)
    obtain ⟨hi0, hiu⟩ := hi
    refine sq ?_
    refine sr ?_
    iterate 5 refine ww ?_
    refine nq ?_
    refine czz (fun h10 => ?_) fun h10 => ?_
    ·
     have hkn3 : i < d.cr.length := by have := of_decide_eq_true h10; omega
     obtain ⟨y, hc⟩ : ∃ y, d.cr[i]? = some y := ⟨_, List.getElem?_eq_getElem hkn3⟩
     refine skp ?_
     refine q_seq ?_
     refine sq ?_
     refine bk ?_
     refine sr ?_
     iterate 3 refine ww ?_
     refine wy (ix (A := a.cA) (m := d.cr.length)) ?_
     refine wy (ldEW (A := a.cA) (hk := map_at hc)) ?_
     refine al (h := fun b1 => ?_)
     first | refine stA (h := ?_) | refine stEA (h := ?_)
     refine nr ?_
     iterate 2 refine ww ?_
     refine cl0 (hc := fun w hS => C_ref9_within _ _ _ w) (h := ?_)
     iterate 2 refine ww ?_
     apply brOr 5 85 90 (by exact rfl)
     ·
      intro hb11
      iterate 2 refine uw ?_
      refine uz ?_
      refine cl0 (hc := fun w hS => C_ref9_within _ _ _ w) (h := ?_)
      refine uw ?_
      refine ww ?_
      exact mg (by repeat (first | exact trivial | refine ⟨rfl, ?_⟩ | refine ⟨by rw [hb11]; rfl, ?_⟩)) slz_
     ·
      intro hb11
      repeat (first | refine uz ?_ | refine kz ?_ | refine wz ?_)
      exact mg (by repeat (first | exact trivial | refine ⟨rfl, ?_⟩ | refine ⟨by rw [hb11]; rfl, ?_⟩)) slz_
     refine ww ?_
     apply brOr 5 91 96 (by exact rfl)
     ·
      intro hb12
      iterate 2 refine uw ?_
      refine uz ?_
      refine cl0 (hc := fun w hS => C_ref9_within _ _ _ w) (h := ?_)
      refine uw ?_
      refine ww ?_
      exact mg (by repeat (first | exact trivial | refine ⟨rfl, ?_⟩ | refine ⟨by rw [hb12]; rfl, ?_⟩)) slz_
     ·
      intro hb12
      repeat (first | refine uz ?_ | refine kz ?_ | refine wz ?_)
      exact mg (by repeat (first | exact trivial | refine ⟨rfl, ?_⟩ | refine ⟨by rw [hb12]; rfl, ?_⟩)) slz_
     refine nq ?_
     refine czz (fun h13 => ?_) fun h13 => ?_
     ·
      have hE : depE d = 90 := dep_cr (all_no hc (by rw [crOk, h13]; rfl))
      refine sr ?_
      refine ww ?_
      refine nq ?_
      refine rtn ?_
      refine q_blk_ret ?_
      iterate 2 refine q_then_ret ?_
      refine q_blk_ret ?_
      refine q_then_ret ?_
      refine q_ret (hR := ?_)
      rw [hE]
      exact fun w hS => ⟨rfl, hS.sub slz_⟩
     ·
      have hin := upto_succ hiu hc (by rw [crOk, h13]; rfl)
      refine skp ?_
      refine q_blk_norm ?_
      refine q_seq ?_
      refine rg ?_
      iterate 3 refine ww ?_
      refine nl ?_
      refine rn (x := i) (i + 1) ⟨hkn3, hin⟩ (by omega) sbz_ slz_
    ·
     have hkn3 : i = d.cr.length := by have := of_decide_eq_false h10; omega
     have hcr : crB d = true := all_to fun i' x hi' => hiu i' x (by omega)
     have hE := dep_yes hkit hln hst hfx hcr
     refine et ?_
     iterate 2 refine q_then_exit ?_
     refine q_blk_hit ?_
     refine q_seq ?_
     refine sr ?_
     refine ww ?_
     refine nq ?_
     refine rtn ?_
     refine q_ret (hR := ?_)
     rw [hE]
     exact fun w hS => ⟨rfl, hS.sub slz_⟩
end Go.Proofs.YtpmmgljndceplaaGreat

namespace Go.Proofs.YtpmmgljndceplaaGreat
open Go Go.RowKit

def accN (d : Dp) (item : Int) : Nat → Nat → Pr
 | 0, _ => (0, 0)
 | k + 1, dd => match d.fx[k]? with
  | some x => bif decide (x.day = (dd : Int)) then ((accN d item k dd).1 + (ndV d.each d.tow d.fra x item).1, (accN d item k dd).2 + (ndV d.each d.tow d.fra x item).2) else accN d item k dd
  | none => accN d item k dd
def needD (d : Dp) (item : Int) (dd : Nat) : Pr := accN d item d.fx.length dd
def crT (d : Dp) (item : Int) (dd : Nat) : Nat → Int
 | 0 => 0
 | k + 1 => match d.cr[k]? with
  | some c => bif decide (c.day = (dd : Int)) && decide (c.item = item) then crT d item dd k + c.count else crT d item dd k
  | none => crT d item dd k
def lefD (d : Dp) (item : Int) : Nat → Pr
 | 0 => (d.st.getD item.toNat 0, d.st.getD item.toNat 0)
 | k + 1 => ((lefD d item k).1 + crT d item k d.cr.length - (needD d item k).2, (lefD d item k).2 + crT d item k d.cr.length - (needD d item k).1)
def wkF (N L : Nat → Pr) : Nat → Int := fun i => if i < 122 then (if i % 2 = 0 then (N (i / 2)).1 else (N (i / 2)).2) else (if i % 2 = 0 then (L ((i - 122) / 2)).1 else (L ((i - 122) / 2)).2)
def updF (N : Nat → Pr) (k : Nat) (v : Pr) : Nat → Pr := fun i => if i = k then v else N i
theorem wk_lo (N L : Nat → Pr) {k o : Nat} (hk : k < 61) (ho : o = k * 2) (v : Int) : numE 244 (fun i => if i = o then v else wkF N L i) = numE 244 (wkF (updF N k (v, (N k).2)) L) := numE_congr fun i hi => by
 subst ho
 unfold wkF updF
 by_cases e : i = k * 2
 ·
  rw [if_pos e, if_pos (by omega), if_pos (by omega), if_pos (by omega)]
 ·
  rw [if_neg e]
  by_cases h1 : i < 122
  ·
   rw [if_pos h1, if_pos h1]
   by_cases h2 : i % 2 = 0
   ·
    rw [if_pos h2, if_pos h2, if_neg (by omega)]
   ·
    rw [if_neg h2, if_neg h2]
    by_cases h3 : i / 2 = k
    ·
     rw [if_pos h3, h3]
    ·
     rw [if_neg h3]
  ·
   rw [if_neg h1, if_neg h1]
theorem wk_hi (N L : Nat → Pr) {k o : Nat} (hk : k < 61) (ho : o = k * 2 + 1) (v : Int) : numE 244 (fun i => if i = o then v else wkF N L i) = numE 244 (wkF (updF N k ((N k).1, v)) L) := numE_congr fun i hi => by
 subst ho
 unfold wkF updF
 by_cases e : i = k * 2 + 1
 ·
  rw [if_pos e, if_pos (by omega), if_neg (by omega), if_pos (by omega)]
 ·
  rw [if_neg e]
  by_cases h1 : i < 122
  ·
   rw [if_pos h1, if_pos h1]
   by_cases h2 : i % 2 = 0
   ·
    rw [if_pos h2, if_pos h2]
    by_cases h3 : i / 2 = k
    ·
     rw [if_pos h3, h3]
    ·
     rw [if_neg h3]
   ·
    rw [if_neg h2, if_neg h2, if_neg (by omega)]
  ·
   rw [if_neg h1, if_neg h1]
theorem wk_left (N L : Nat → Pr) {k o : Nat} (hk : k < 61) (ho : o = 122 + k * 2) (v : Pr) : putAll (numE 244 (wkF N L)) o [.int .i64 v.1, .int .i64 v.2] = numE 244 (wkF N (updF L k v)) := by
 show ((numE 244 (wkF N L)).set o _).set (o + 1) _ = _
 rw [numE_set, numE_set]
 refine numE_congr fun i hi => ?_
 subst ho
 unfold wkF updF
 by_cases e1 : i = 122 + k * 2 + 1
 ·
  rw [if_pos e1, if_neg (by omega), if_neg (by omega), if_pos (by omega)]
 ·
  rw [if_neg e1]
  by_cases e2 : i = 122 + k * 2
  ·
   rw [if_pos e2, if_neg (by omega), if_pos (by omega), if_pos (by omega)]
  ·
   rw [if_neg e2]
   by_cases h1 : i < 122
   ·
    rw [if_pos h1, if_pos h1]
   ·
    have hne : ¬ (i - 122) / 2 = k := by omega
    rw [if_neg h1, if_neg h1, if_neg hne]
theorem wk_congr {N L N' L' : Nat → Pr} (h1 : ∀ k, k < 61 → N k = N' k) (h2 : ∀ k, k < 61 → L k = L' k) : numE 244 (wkF N L) = numE 244 (wkF N' L') := numE_congr fun i hi => by
 unfold wkF
 by_cases h : i < 122
 ·
  rw [if_pos h, if_pos h, h1 (i / 2) (by omega)]
 ·
  rw [if_neg h, if_neg h, h2 ((i - 122) / 2) (by omega)]
theorem wk_need1 (N L : Nat → Pr) {k o : Nat} (hk : k < 61) (ho : o = k * 2) : (numE 244 (wkF N L))[o]? = some (.int .i64 (N k).1) := by
 rw [numE_at (by omega)]
 unfold wkF
 rw [if_pos (by omega), if_pos (by omega), show o / 2 = k by omega]
theorem wk_need2 (N L : Nat → Pr) {k o : Nat} (hk : k < 61) (ho : o = k * 2 + 1) : (numE 244 (wkF N L))[o]? = some (.int .i64 (N k).2) := by
 rw [numE_at (by omega)]
 unfold wkF
 rw [if_pos (by omega), if_neg (by omega), show o / 2 = k by omega]
theorem wk_left1 (N L : Nat → Pr) {k o : Nat} (hk : k < 61) (ho : o = 122 + k * 2) : (numE 244 (wkF N L))[o]? = some (.int .i64 (L k).1) := by
 rw [numE_at (by omega)]
 unfold wkF
 rw [if_neg (by omega), if_pos (by omega), show (o - 122) / 2 = k by omega]
theorem wk_left2 (N L : Nat → Pr) {k o : Nat} (hk : k < 61) (ho : o = 122 + k * 2 + 1) : (numE 244 (wkF N L))[o]? = some (.int .i64 (L k).2) := by
 rw [numE_at (by omega)]
 unfold wkF
 rw [if_neg (by omega), if_neg (by omega), show (o - 122) / 2 = k by omega]
theorem wk_zero : numE 244 (fun _ => 0) = numE 244 (wkF (fun _ => (0, 0)) (fun _ => (0, 0))) := numE_congr fun i hi => by unfold wkF; by_cases h : i < 122 <;> by_cases h2 : i % 2 = 0 <;> simp [h, h2]
abbrev wkC (d : Dp) (item : Int) : List Value := numE 244 (wkF (needD d item) (fun j => lefD d item (j + 1)))
structure DepG (d : Dp) : Prop where
 k1 : 0 ≤ d.each ∧ d.each ≤ 20
 k2 : 0 ≤ d.tow ∧ d.tow ≤ 20
 k3 : 0 ≤ d.fra ∧ d.fra ≤ 20
 sl : d.st.length = 3
 fl : d.fx.length ≤ 30
 cl : d.cr.length ≤ 30
 st : ∀ x ∈ d.st, 0 ≤ x ∧ x ≤ 99999
 fx : ∀ x ∈ d.fx, (0 ≤ x.day ∧ x.day ≤ 60) ∧ checkE x.f x.b = 0
 cr : ∀ c ∈ d.cr, (0 ≤ c.day ∧ c.day ≤ 60) ∧ (0 ≤ c.item ∧ c.item ≤ 2) ∧ 0 ≤ c.count ∧ c.count ≤ 99999
theorem dep_good {d : Dp} (h : depOk d = true) : DepG d := by
 unfold depOk at h
 simp only [Bool.and_eq_true] at h
 obtain ⟨⟨⟨⟨h1, h2⟩, h3⟩, h4⟩, h5⟩ := h
 unfold kitB at h1
 simp only [Bool.and_eq_true] at h1
 unfold lenB at h2
 simp only [Bool.not_eq_true', Bool.or_eq_false_iff, Bool.not_eq_false', decide_eq_true_eq, decide_eq_false_iff_not] at h2
 refine ⟨wi_iff.1 h1.1.1, wi_iff.1 h1.1.2, wi_iff.1 h1.2, by omega, by omega, by omega, fun x hx => wi_iff.1 (List.all_eq_true.1 h3 x hx), fun x hx => ?_, fun c hc => ?_⟩
 ·
  have := List.all_eq_true.1 h4 x hx
  unfold fxOk at this
  simp only [Bool.not_eq_true', Bool.or_eq_false_iff, Bool.not_eq_false', decide_eq_true_eq] at this
  exact ⟨wi_iff.1 this.1, this.2⟩
 ·
  have := List.all_eq_true.1 h5 c hc
  unfold crOk at this
  simp only [Bool.not_eq_true', Bool.or_eq_false_iff, Bool.not_eq_false'] at this
  exact ⟨wi_iff.1 this.1.1, wi_iff.1 this.1.2, wi_iff.1 this.2⟩
theorem acc_rng {d : Dp} (h : DepG d) (item : Int) (dd : Nat) : ∀ k : Nat, 0 ≤ (accN d item k dd).1 ∧ (accN d item k dd).1 ≤ (accN d item k dd).2 ∧ (accN d item k dd).2 ≤ 10000 * k
 | 0 => by show 0 ≤ (0 : Int) ∧ (0 : Int) ≤ 0 ∧ (0 : Int) ≤ 10000 * ((0 : Nat) : Int); omega
 | k + 1 => by
  have ih := acc_rng h item dd k
  rw [accN]
  cases hx : d.fx[k]? with
  | none => simp only; omega
  | some x =>
   have hr := nd_rng (item := item) ⟨h.k1, h.k2, h.k3⟩ (h.fx x (List.mem_of_getElem? hx)).2
   simp only
   cases decide (x.day = (dd : Int))
   ·
    simp only [cond_false]; omega
   ·
    simp only [cond_true]; omega
theorem need_rng {d : Dp} (h : DepG d) (item : Int) (dd : Nat) : 0 ≤ (needD d item dd).1 ∧ (needD d item dd).1 ≤ (needD d item dd).2 ∧ (needD d item dd).2 ≤ 300000 := by
 have h1 := acc_rng h item dd d.fx.length
 have h2 := h.fl
 unfold needD; omega
theorem cr_rng {d : Dp} (h : DepG d) (item : Int) (dd : Nat) : ∀ k : Nat, 0 ≤ crT d item dd k ∧ crT d item dd k ≤ 100000 * k
 | 0 => by show 0 ≤ (0 : Int) ∧ (0 : Int) ≤ 100000 * ((0 : Nat) : Int); omega
 | k + 1 => by
  have ih := cr_rng h item dd k
  rw [crT]
  cases hx : d.cr[k]? with
  | none => simp only; omega
  | some c =>
   have hr := (h.cr c (List.mem_of_getElem? hx)).2.2
   simp only
   cases decide (c.day = (dd : Int)) && decide (c.item = item)
   ·
    simp only [cond_false]; omega
   ·
    simp only [cond_true]; omega
theorem st_rng {d : Dp} (h : DepG d) (k : Nat) : 0 ≤ d.st.getD k 0 ∧ d.st.getD k 0 ≤ 99999 := by
 rw [List.getD_eq_getElem?_getD]
 cases hx : d.st[k]? with
 | none => show 0 ≤ (0 : Int) ∧ (0 : Int) ≤ 99999; omega
 | some x => exact h.st x (List.mem_of_getElem? hx)
theorem lef_rng {d : Dp} (h : DepG d) (item : Int) : ∀ k : Nat, -(300000 * (k : Int)) ≤ (lefD d item k).1 ∧ (lefD d item k).1 ≤ (lefD d item k).2 ∧ (lefD d item k).2 ≤ 100000 + 3000000 * k
 | 0 => by
  have h1 := st_rng h item.toNat
  show -(300000 * ((0 : Nat) : Int)) ≤ d.st.getD item.toNat 0 ∧ d.st.getD item.toNat 0 ≤ d.st.getD item.toNat 0 ∧ d.st.getD item.toNat 0 ≤ 100000 + 3000000 * ((0 : Nat) : Int)
  omega
 | k + 1 => by
  have ih := lef_rng h item k
  have h1 := need_rng h item k
  have h2 := cr_rng h item k d.cr.length
  have h3 := h.cl
  rw [lefD]; dsimp only; omega
theorem acc_succ {d : Dp} {item : Int} {k : Nat} {x : Fx} (hx : d.fx[k]? = some x) (hd : 0 ≤ x.day) (dd : Nat) : accN d item (k + 1) dd = updF (accN d item k) x.day.toNat ((accN d item k x.day.toNat).1 + (ndV d.each d.tow d.fra x item).1, (accN d item k x.day.toNat).2 + (ndV d.each d.tow d.fra x item).2) dd := by
 rw [accN, hx]
 unfold updF
 simp only
 by_cases e : dd = x.day.toNat
 ·
  rw [if_pos e, decide_eq_true (by omega), e]; rfl
 ·
  rw [if_neg e, decide_eq_false (by omega)]; rfl
theorem upd_upd (N : Nat → Pr) (k : Nat) (a b : Pr) : updF (updF N k a) k b = updF N k b := by
 funext i; unfold updF; by_cases e : i = k
 ·
  rw [if_pos e, if_pos e]
 ·
  rw [if_neg e, if_neg e, if_neg e]
theorem upd_at (N : Nat → Pr) (k : Nat) (a : Pr) : updF N k a k = a := if_pos rfl
theorem nd_at {each tow fra : Int} {x : Fx} {item : Int} (h : 0 ≤ item ∧ item ≤ 2) : ((nd6 each tow fra x).drop (item.toNat * 2)).take 2 = [.int .i64 (ndV each tow fra x item).1, .int .i64 (ndV each tow fra x item).2] := by
 have h3 : item = 0 ∨ item = 1 ∨ item = 2 := by omega
 rcases h3 with rfl | rfl | rfl <;> rfl
theorem st_at {d : Dp} (h : DepG d) {item : Int} (hi : 0 ≤ item ∧ item ≤ 2) : (encI d.st)[item.toNat]? = some [.int .i64 (d.st.getD item.toNat 0)] := by
 have := h.sl
 rw [encI_at (List.getElem?_eq_getElem (show item.toNat < d.st.length by omega)), List.getD_eq_getElem?_getD, List.getElem?_eq_getElem (show item.toNat < d.st.length by omega)]; rfl
def lefT (d : Dp) (item : Int) (k : Nat) : Nat → Pr := fun j => if j < k then lefD d item (j + 1) else (0, 0)
theorem lefT_succ (d : Dp) (item : Int) (k : Nat) : updF (lefT d item k) k (lefD d item (k + 1)) = lefT d item (k + 1) := by
 funext i; unfold updF lefT
 by_cases e : i = k
 ·
  rw [if_pos e, if_pos (by omega), e]
 ·
  rw [if_neg e]
  by_cases h : i < k
  ·
   rw [if_pos h, if_pos (by omega)]
  ·
   rw [if_neg h, if_neg (by omega)]
theorem crT_succ {d : Dp} {item : Int} {dd k : Nat} {c : Cx} (h : d.cr[k]? = some c) : crT d item dd (k + 1) = bif decide (c.day = (dd : Int)) && decide (c.item = item) then crT d item dd k + c.count else crT d item dd k := by rw [crT, h]
set_option maxRecDepth 100000 in
set_option maxHeartbeats 4000000 in
theorem C_balls_run (d : Dp) (a : DA) (item : Int) (hG : DepG d) (hi : 0 ≤ item ∧ item ≤ 2) (w : World) (h : DpR w d a) : C0 Tryz.prog 64 [d.val a, .int .i64 item] w (.agg (wkC d item).toArray) := by
 have hsc := h.sc
 have hfl := hG.fl
 have hcl := hG.cl
 have hsl := hG.sl
 have hwz : numE 244 (fun _ => 0) = numE 244 (wkF (accN d item 0) (fun _ => (0, 0))) := wk_zero
 refine ⟨en Tryz.func64 Tryz.ntmps64 ((((St.init w).share (e := .ro a.sA 1 d.st.length (encI d.st)) h.s rfl rfl rfl).share (e := .ro a.fA 16 d.fx.length (d.fx.map Fx.enc)) h.f rfl rfl rfl).share (e := .ro a.cA 3 d.cr.length (d.cr.map Cx.enc)) h.c rfl rfl rfl) (h := fun F => ?_)⟩
 refine sr ?_
 refine bxA (h := fun b0 => ?_)
 refine al (h := fun b1 => ?_)
 refine WL.blkTo (numE 244 fun _ => 0) .here (by rfl) ?_
 rw [hwz]
 refine nq ?_
 refine sq ?_
 refine sr ?_
 iterate 4 refine ww ?_
 refine nq ?_
 refine bk ?_
 refine lp (X := Nat) (I := fun k => k ≤ d.fx.length) (le := fun k => [(1, .int .i64 item), (2, .pointer (some ⟨b0, 0, none⟩)), (4, .pointer (some ⟨b1, 0, none⟩)), (13, .slice a.fA d.fx.length a.fc), (14, .int .i64 d.fx.length), (15, .int .i64 k)]) (Le := fun k => [.blk b1 97 (numE 244 (wkF (accN d item k) (fun _ => (0, 0)))), .blk b0 28 (d.cells a), .ro a.sA 1 d.st.length (encI d.st), .ro a.fA 16 d.fx.length (d.fx.map Fx.enc), .ro a.cA 3 d.cr.length (d.cr.map Cx.enc)]) (μ := fun k => d.fx.length - k) 0 (Nat.zero_le _) sbz_ slz_ (fun k hk => ?_)
 refine sr ?_
 refine ww ?_
 refine nq ?_
 refine sq ?_
 refine czz (fun h0 => ?_) fun h0 => ?_
 ·
  have hkn : k < d.fx.length := by have := of_decide_eq_true h0; omega
  obtain ⟨x, hx⟩ : ∃ x, d.fx[k]? = some x := ⟨_, List.getElem?_eq_getElem hkn⟩
  have hxg := hG.fx x (List.mem_of_getElem? hx)
  have hdl : x.day.toNat < 61 := by omega
  have hnr := nd_rng (item := item) ⟨hG.k1, hG.k2, hG.k3⟩ hxg.2
  have har := acc_rng hG item x.day.toNat k
  have hacc : updF (accN d item k) x.day.toNat ((accN d item k x.day.toNat).1 + (ndV d.each d.tow d.fra x item).1, (accN d item k x.day.toNat).2 + (ndV d.each d.tow d.fra x item).2) = accN d item (k + 1) := funext fun dd => (acc_succ hx hxg.1.1 dd).symm
  refine skp ?_
  refine q_seq ?_
  refine sq ?_
  refine bk ?_
  refine sr ?_
  refine wy (ix (A := a.fA) (m := d.fx.length)) ?_
  refine wy (ldEW (A := a.fA) (hk := map_at hx)) ?_
  refine al (h := fun bx => ?_)
  first | refine stA (h := ?_) | refine stEA (h := ?_)
  refine nr ?_
  iterate 3 refine ww ?_
  refine cl0 (hc := fun w hS => C_balls_needs d.each d.tow d.fra x ⟨hG.k1, hG.k2, hG.k3⟩ hxg.2 w ((hS.old (h.x x (List.mem_of_getElem? hx)).r).get)) (h := ?_)
  refine ww ?_
  refine wy ixv ?_
  rw [nd_at hi]
  refine al (h := fun bn => ?_)
  first | refine stA (h := ?_) | refine stEA (h := ?_)
  refine nq ?_
  refine sq ?_
  refine rgD (by kernel_rfl) [(1000000, .blk bx 42 x.enc), (1000000, .blk bn 56 [.int .i64 (ndV d.each d.tow d.fra x item).1, .int .i64 (ndV d.each d.tow d.fra x item).2]), (12, .blk b1 97 (numE 244 (wkF (accN d item k) (fun _ => (0, 0)))))] (by repeat (first | exact HS.nil | (apply HS.keep; (repeat (first | exact At.here | apply At.there))) | (apply HS.ro; (repeat (first | exact Rds.ro | exact Rds.own | apply Rds.there))))) (h := ?_)
  refine tw 0 ?_
  refine tw 1 ?_
  refine tw 2 ?_
  refine tk 3 (hy := ixA (hb := by omega)) (h := ?_)
  refine tw 4 ?_
  refine tk 5 (hy := ld (hc := wk_need1 (accN d item k) (fun _ => (0, 0)) hdl (by omega))) (h := ?_)
  refine tw 6 ?_
  refine tw 7 ?_
  refine tw 8 ?_
  refine tw 9 ?_
  refine tk 10 (hy := ixA (hb := by omega)) (h := ?_)
  refine tw 11 ?_
  refine one 12 (h := ?_)
  refine stI (ho := by rw [numE_len]; omega) (h := ?_)
  rw [numE_set, wk_lo (k := x.day.toNat) _ _ hdl (by omega)]
  refine nx (h := ?_)
  refine dn (h := ?_)
  refine q_seq ?_
  refine rgD (by kernel_rfl) [(1000000, .blk bx 42 x.enc), (1000000, .blk bn 56 [.int .i64 (ndV d.each d.tow d.fra x item).1, .int .i64 (ndV d.each d.tow d.fra x item).2]), (12, .blk b1 97 (numE 244 (wkF (updF (accN d item k) x.day.toNat ((accN d item k x.day.toNat).1 + (ndV d.each d.tow d.fra x item).1, (accN d item k x.day.toNat).2)) (fun _ => (0, 0)))))] (by repeat (first | exact HS.nil | (apply HS.keep; (repeat (first | exact At.here | apply At.there))) | (apply HS.ro; (repeat (first | exact Rds.ro | exact Rds.own | apply Rds.there))))) (h := ?_)
  refine tw 0 ?_
  refine tw 1 ?_
  refine tw 2 ?_
  refine tk 3 (hy := ixA (hb := by omega)) (h := ?_)
  refine tw 4 ?_
  refine tk 5 (hy := ld (v := .int .i64 (accN d item k x.day.toNat).2) (hc := (wk_need2 _ (fun _ => (0, 0)) hdl (by omega)).trans (by rw [upd_at]))) (h := ?_)
  refine tw 6 ?_
  refine tw 7 ?_
  refine tw 8 ?_
  refine tw 9 ?_
  refine tk 10 (hy := ixA (hb := by omega)) (h := ?_)
  refine tw 11 ?_
  refine one 12 (h := ?_)
  refine stI (ho := by rw [numE_len]; omega) (h := ?_)
  rw [numE_set, wk_hi (k := x.day.toNat) _ _ hdl (by omega), upd_upd, upd_at, hacc]
  refine nx (h := ?_)
  refine dn (h := ?_)
  refine q_blk_norm ?_
  refine q_seq ?_
  refine rg ?_
  iterate 2 refine ww ?_
  refine nl ?_
  refine rn (x := k) (k + 1) hkn (by omega) sbz_ slz_
 ·
  have hkn : k = d.fx.length := by have := of_decide_eq_false h0; omega
  rw [hkn]
  refine et ?_
  iterate 2 refine q_then_exit ?_
  refine q_blk_hit ?_
  refine q_seq ?_
  refine sq ?_
  refine rgD0 (by kernel_rfl) (h := ?_)
  refine tw 0 ?_
  refine tw 1 ?_
  refine tw 2 ?_
  refine tk 3 (hy := ix (A := a.sA) (m := d.st.length)) (h := ?_)
  refine tk 4 (hy := ldE (A := a.sA) (hk := st_at hG hi)) (h := ?_)
  refine tw 5 ?_
  refine tw 6 ?_
  refine tw 7 ?_
  refine tk 8 (hy := ix (A := a.sA) (m := d.st.length)) (h := ?_)
  refine tk 9 (hy := ldE (A := a.sA) (hk := st_at hG hi)) (h := ?_)
  refine tw 10 ?_
  refine one 11 (h := ?_)
  refine al (h := fun bl => ?_)
  refine nx (h := ?_)
  refine one 12 (h := ?_)
  first | refine stA (h := ?_) | refine stEA (h := ?_)
  refine nx (h := ?_)
  refine dn (h := ?_)
  refine q_seq ?_
  refine sq ?_
  refine sr ?_
  refine ww ?_
  refine nq ?_
  refine bk ?_
  refine lp (X := Nat) (I := fun z => z ≤ 61) (le := fun z => [(1, .int .i64 item), (2, .pointer (some ⟨b0, 0, none⟩)), (4, .pointer (some ⟨b1, 0, none⟩)), (8, .pointer (some ⟨bl, 0, none⟩)), (61, .int .i64 z)]) (Le := fun z => [.blk bl 56 [.int .i64 (lefD d item z).1, .int .i64 (lefD d item z).2], .blk b1 97 (numE 244 (wkF (needD d item) (lefT d item z))), .blk b0 28 (d.cells a), .ro a.sA 1 d.st.length (encI d.st), .ro a.fA 16 d.fx.length (d.fx.map Fx.enc), .ro a.cA 3 d.cr.length (d.cr.map Cx.enc)]) (μ := fun z => 61 - z) 0 (Nat.zero_le _) sbz_ slz_ (fun z hz => ?_)
  refine sr ?_
  refine ww ?_
  refine nq ?_
  refine sq ?_
  refine czz (fun h1 => ?_) fun h1 => ?_
  ·
   have hz61 : z < 61 := by have := of_decide_eq_true h1; omega
   have hlr := lef_rng hG item z
   have hnr := need_rng hG item z
   refine skp ?_
   refine q_seq ?_
   refine sq ?_
   refine bk ?_
   refine sr ?_
   iterate 2 refine ww ?_
   refine nq ?_
   refine sq ?_
   refine sr ?_
   iterate 4 refine ww ?_
   refine nq ?_
   refine bk ?_
   refine lp (X := Nat) (I := fun j => j ≤ d.cr.length) (le := fun j => [(1, .int .i64 item), (2, .pointer (some ⟨b0, 0, none⟩)), (4, .pointer (some ⟨b1, 0, none⟩)), (8, .pointer (some ⟨bl, 0, none⟩)), (9, .int .i64 z), (61, .int .i64 z), (65, .slice a.cA d.cr.length a.cc), (66, .int .i64 d.cr.length), (67, .int .i64 j)]) (Le := fun j => [.blk bl 56 [.int .i64 ((lefD d item z).1 + crT d item z j), .int .i64 ((lefD d item z).2 + crT d item z j)], .blk b1 97 (numE 244 (wkF (needD d item) (lefT d item z))), .blk b0 28 (d.cells a), .ro a.sA 1 d.st.length (encI d.st), .ro a.fA 16 d.fx.length (d.fx.map Fx.enc), .ro a.cA 3 d.cr.length (d.cr.map Cx.enc)]) (μ := fun j => d.cr.length - j) 0 (Nat.zero_le _) sbz_ (by rw [show (lefD d item z).1 + crT d item z 0 = (lefD d item z).1 from Int.add_zero _, show (lefD d item z).2 + crT d item z 0 = (lefD d item z).2 from Int.add_zero _]; repeat (first | exact SubL.nil | (apply SubL.cons; (repeat (first | exact At.here | apply At.there))) | exact SubL.refl _ | apply SubL.skip)) (fun j hj => ?_)
   refine sr ?_
   refine ww ?_
   refine nq ?_
   refine sq ?_
   refine czz (fun h2 => ?_) fun h2 => ?_
   ·
    have hjn : j < d.cr.length := by have := of_decide_eq_true h2; omega
    obtain ⟨y, hc⟩ : ∃ y, d.cr[j]? = some y := ⟨_, List.getElem?_eq_getElem hjn⟩
    have hyr := (hG.cr y (List.mem_of_getElem? hc)).2.2
    have hcr := cr_rng hG item z j
    have hcs := crT_succ (item := item) (dd := z) hc
    refine skp ?_
    refine q_seq ?_
    refine sq ?_
    refine bk ?_
    refine sr ?_
    refine wy (ix (A := a.cA) (m := d.cr.length)) ?_
    refine wy (ldEW (A := a.cA) (hk := map_at hc)) ?_
    refine al (h := fun bc => ?_)
    first | refine stA (h := ?_) | refine stEA (h := ?_)
    refine nr ?_
    iterate 5 refine ww ?_
    apply brAnd 5 75 80 (by exact rfl)
    ·
     intro hb3
     iterate 4 refine uw ?_
     refine ww ?_
     exact mg (by repeat (first | exact trivial | refine ⟨rfl, ?_⟩ | refine ⟨by rw [hb3]; rfl, ?_⟩)) slz_
    ·
     intro hb3
     repeat (first | refine uz ?_ | refine kz ?_ | refine wz ?_)
     exact mg (by repeat (first | exact trivial | refine ⟨rfl, ?_⟩ | refine ⟨by rw [hb3]; rfl, ?_⟩)) slz_
    refine nq ?_
    refine czz (fun h4 => ?_) fun h4 => ?_
    ·
     rw [h4, cond_true] at hcs
     have hc1 : (lefD d item z).1 + crT d item z (j + 1) = (lefD d item z).1 + crT d item z j + y.count := by rw [hcs]; omega
     have hc2 : (lefD d item z).2 + crT d item z (j + 1) = (lefD d item z).2 + crT d item z j + y.count := by rw [hcs]; omega
     refine sr ?_
     iterate 6 refine ww ?_
     first | refine st (h := ?_) | refine stE (h := ?_)
     refine nq ?_
     refine rg ?_
     iterate 6 refine ww ?_
     first | refine st (h := ?_) | refine stE (h := ?_)
     refine nl ?_
     refine q_blk_norm ?_
     refine q_seq ?_
     refine rg ?_
     iterate 2 refine ww ?_
     refine nl ?_
     refine rn (x := j) (j + 1) hjn (by omega) sbz_ (by rw [hc1, hc2]; repeat (first | exact SubL.nil | (apply SubL.cons; (repeat (first | exact At.here | apply At.there))) | exact SubL.refl _ | apply SubL.skip))
    ·
     rw [h4, cond_false] at hcs
     have hc1 : (lefD d item z).1 + crT d item z (j + 1) = (lefD d item z).1 + crT d item z j := by rw [hcs]
     have hc2 : (lefD d item z).2 + crT d item z (j + 1) = (lefD d item z).2 + crT d item z j := by rw [hcs]
     refine skp ?_
     refine q_blk_norm ?_
     refine q_seq ?_
     refine rg ?_
     iterate 2 refine ww ?_
     refine nl ?_
     refine rn (x := j) (j + 1) hjn (by omega) sbz_ (by rw [hc1, hc2]; repeat (first | exact SubL.nil | (apply SubL.cons; (repeat (first | exact At.here | apply At.there))) | exact SubL.refl _ | apply SubL.skip))
   ·
    have hjn : j = d.cr.length := by have := of_decide_eq_false h2; omega
    rw [hjn]
    have hcr := cr_rng hG item z d.cr.length
    refine et ?_
    iterate 2 refine q_then_exit ?_
    refine q_blk_hit ?_
    refine q_seq ?_
    refine sq ?_
    refine rgD (by kernel_rfl) [(9, .blk bl 56 _), (1000000, .blk b1 97 (numE 244 (wkF (needD d item) (lefT d item z))))] (by repeat (first | exact HS.nil | (apply HS.keep; (repeat (first | exact At.here | apply At.there))) | (apply HS.ro; (repeat (first | exact Rds.ro | exact Rds.own | apply Rds.there))))) (h := ?_)
    refine tw 0 ?_
    refine tw 1 ?_
    refine tw 2 ?_
    refine tw 3 ?_
    refine tk 4 (hy := ixA (hb := by omega)) (h := ?_)
    refine tw 5 ?_
    refine tk 6 (hy := ld (hc := wk_need2 (needD d item) (lefT d item z) hz61 (by omega))) (h := ?_)
    refine tw 7 ?_
    refine tw 8 ?_
    refine one 9 (h := ?_)
    first | refine st (h := ?_) | refine stE (h := ?_)
    refine nx (h := ?_)
    refine dn (h := ?_)
    refine q_seq ?_
    refine sq ?_
    refine rgD (by kernel_rfl) [(9, .blk bl 56 _), (1000000, .blk b1 97 (numE 244 (wkF (needD d item) (lefT d item z))))] (by repeat (first | exact HS.nil | (apply HS.keep; (repeat (first | exact At.here | apply At.there))) | (apply HS.ro; (repeat (first | exact Rds.ro | exact Rds.own | apply Rds.there))))) (h := ?_)
    refine tw 0 ?_
    refine tw 1 ?_
    refine tw 2 ?_
    refine tw 3 ?_
    refine tk 4 (hy := ixA (hb := by omega)) (h := ?_)
    refine tw 5 ?_
    refine tk 6 (hy := ld (hc := wk_need1 (needD d item) (lefT d item z) hz61 (by omega))) (h := ?_)
    refine tw 7 ?_
    refine tw 8 ?_
    refine one 9 (h := ?_)
    first | refine st (h := ?_) | refine stE (h := ?_)
    refine nx (h := ?_)
    refine dn (h := ?_)
    refine q_seq ?_
    refine rg ?_
    iterate 3 refine ww ?_
    refine wy ixA ?_
    refine stP (vs := [.int .i64 (lefD d item (z + 1)).1, .int .i64 (lefD d item (z + 1)).2]) (h1 := fun v hv => by simp only [List.mem_cons, List.not_mem_nil, or_false] at hv; rcases hv with rfl | rfl <;> rfl) (hsz := rfl) (ho := by rw [numE_len]; simp only [List.length_cons, List.length_nil]; omega) (h := ?_)
    rw [wk_left (k := z) _ _ hz61 (by omega) (lefD d item (z + 1)), lefT_succ]
    refine nl ?_
    refine q_blk_norm ?_
    refine q_seq ?_
    refine rg ?_
    iterate 2 refine ww ?_
    refine nl ?_
    refine rn (x := z) (z + 1) hz61 (by omega) sbz_ slz_
  ·
   have hz61 : z = 61 := by have := of_decide_eq_false h1; omega
   rw [hz61, wk_congr (N := needD d item) (L := lefT d item 61) (N' := needD d item) (L' := fun j => lefD d item (j + 1)) (fun _ _ => rfl) (fun j hj => if_pos hj)]
   refine et ?_
   iterate 2 refine q_then_exit ?_
   refine q_blk_hit ?_
   refine q_seq ?_
   refine sr ?_
   refine wy (ldW (hl := numE_len _ _)) ?_
   refine stW (h1 := numE_one) (hsz := numE_len _ _) (ho := rfl) (h := ?_)
   refine nq ?_
   refine rtn ?_
   refine q_ret (h := (Res.cellA inferInstance (by exact rfl) atz_ (tk_num 244 _) Res.nil)) (hR := ?_)
   exact fun w hS => ⟨rfl, hS.sub slz_⟩
end Go.Proofs.YtpmmgljndceplaaGreat

namespace Go.Proofs.YtpmmgljndceplaaGreat
open Go Go.RowKit

def askE (d : Dp) (item day : Int) : Int := bif !decide (depE d = 0) then depE d else bif !wi item 0 2 || !wi day 0 60 then 1 else 0
def askW (d : Dp) (item day : Int) : List Value := bif decide (askE d item day = 0) then wkC d item else numE 244 fun _ => 0
theorem askW_len (d : Dp) (item day : Int) : (askW d item day).length = 244 := by
 unfold askW; cases decide (askE d item day = 0)
 ·
  exact numE_len _ _
 ·
  exact numE_len _ _
theorem askW_one (d : Dp) (item day : Int) : ∀ v ∈ askW d item day, v.oneCell' = true := by
 unfold askW; cases decide (askE d item day = 0)
 ·
  exact numE_one
 ·
  exact numE_one
theorem ask_ok {d : Dp} {item day : Int} (h : askE d item day = 0) : DepG d ∧ (0 ≤ item ∧ item ≤ 2) ∧ 0 ≤ day ∧ day ≤ 60 := by
 unfold askE at h
 cases h1 : !decide (depE d = 0)
 ·
  rw [h1, cond_false] at h
  cases h2 : !wi item 0 2 || !wi day 0 60
  ·
   rw [Bool.or_eq_false_iff, Bool.not_eq_false', Bool.not_eq_false'] at h2
   exact ⟨dep_good (dep_ok (by simpa using h1)), wi_iff.1 h2.1, wi_iff.1 h2.2⟩
  ·
   rw [h2] at h; cases h
 ·
  rw [h1, cond_true] at h
  rw [h] at h1; cases h1
theorem askW_ok {d : Dp} {item day : Int} (h : askE d item day = 0) : askW d item day = wkC d item := by rw [askW, decide_eq_true h]; rfl
set_option maxRecDepth 100000 in
theorem C_balls_ask (d : Dp) (a : DA) (item day : Int) (w : World) (h : DpR w d a) : C0 Tryz.prog 31 [d.val a, .int .i64 item, .int .i64 day] w (.tuple #[.agg (askW d item day).toArray, .int .i64 (askE d item day)]) := by
 refine ⟨en Tryz.func31 Tryz.ntmps31 ((St.init w).share (e := .ro a.sA 1 d.st.length (encI d.st)) h.s rfl rfl rfl) (h := fun F => ?_)⟩
 refine sr ?_
 refine bxA (h := fun b0 => ?_)
 refine al (h := fun b1 => ?_)
 refine WL.blkTo (numE 244 fun _ => 0) .here (by rfl) ?_
 refine ww ?_
 refine nq ?_
 refine sq ?_
 refine sr ?_
 refine ww ?_
 refine cl0 (hc := fun w hS => C_balls_Check d a w (h.old hS)) (h := ?_)
 refine ww ?_
 refine nr ?_
 iterate 2 refine ww ?_
 refine nq ?_
 refine czz (fun h0 => ?_) fun h0 => ?_
 ·
  have hE : askE d item day = depE d := by rw [askE, h0]; rfl
  have hW : askW d item day = numE 244 fun _ => 0 := by rw [askW, hE, show decide (depE d = 0) = false by simpa using h0]; rfl
  refine sr ?_
  refine wy (Yd.to (v' := .agg (numE 244 fun _ => 0).toArray) bd (by rfl)) ?_
  refine ww ?_
  refine stW (h1 := numE_one) (hsz := numE_len _ _) (ho := rfl) (h := ?_)
  refine ww ?_
  refine nq ?_
  refine rtn ?_
  refine q_then_ret ?_
  refine q_ret (h := (Res.cellA inferInstance (by exact rfl) atz_ (tk_num 244 _) (Res.tmp (by exact rfl) Res.nil))) (hR := ?_)
  rw [hE, hW]
  exact fun w hS => ⟨rfl, hS.sub slz_⟩
 ·
  have hd := h0
  refine skp ?_
  refine q_seq ?_
  refine sq ?_
  refine sr ?_
  refine ww ?_
  refine cl0 (hc := fun w hS => C_balls_within _ _ _ w) (h := ?_)
  iterate 2 refine ww ?_
  apply brOr 4 18 22 (by exact rfl)
  ·
   intro hb1
   refine uw ?_
   refine uz ?_
   refine cl0 (hc := fun w hS => C_balls_within _ _ _ w) (h := ?_)
   refine uw ?_
   refine ww ?_
   exact mg (by repeat (first | exact trivial | refine ⟨rfl, ?_⟩ | refine ⟨by rw [hb1]; rfl, ?_⟩)) slz_
  ·
   intro hb1
   repeat (first | refine uz ?_ | refine kz ?_ | refine wz ?_)
   exact mg (by repeat (first | exact trivial | refine ⟨rfl, ?_⟩ | refine ⟨by rw [hb1]; rfl, ?_⟩)) slz_
  refine nq ?_
  refine czz (fun h2 => ?_) fun h2 => ?_
  ·
   have hE : askE d item day = 1 := by rw [askE, hd, h2]; rfl
   have hW : askW d item day = numE 244 fun _ => 0 := by rw [askW, hE]; rfl
   refine sr ?_
   refine wy (Yd.to (v' := .agg (numE 244 fun _ => 0).toArray) bd (by rfl)) ?_
   refine stW (h1 := numE_one) (hsz := numE_len _ _) (ho := rfl) (h := ?_)
   refine ww ?_
   refine nq ?_
   refine rtn ?_
   refine q_then_ret ?_
   refine q_ret (h := (Res.cellA inferInstance (by exact rfl) atz_ (tk_num 244 _) (Res.tmp (by exact rfl) Res.nil))) (hR := ?_)
   rw [hE, hW]
   exact fun w hS => ⟨rfl, hS.sub slz_⟩
  ·
   have hE : askE d item day = 0 := by rw [askE, hd, h2]; rfl
   have hG := ask_ok hE
   have hW := askW_ok hE
   refine skp ?_
   refine q_seq ?_
   refine sr ?_
   iterate 2 refine ww ?_
   refine cl0 (hc := fun w hS => C_balls_run d a item hG.1 hG.2.1 w (h.old hS)) (h := ?_)
   refine stW (cs := numE 244 fun _ => 0) (h1 := numE_one) (hsz := numE_len _ _) (ho := by rw [numE_len, numE_len]) (h := ?_)
   refine ww ?_
   refine nq ?_
   refine rtn ?_
   refine q_ret (h := (Res.cellA inferInstance (by exact rfl) atz_ (tk_num 244 _) (Res.tmp (by exact rfl) Res.nil))) (hR := ?_)
   rw [hE, hW]
   exact fun w hS => ⟨rfl, hS.sub slz_⟩
def needR (d : Dp) (item day : Int) : List Value := bif decide (askE d item day = 0) then [pv (needD d item day.toNat), .int .i64 0] else [pv (0, 0), .int .i64 (askE d item day)]
def leftR (d : Dp) (item day : Int) : List Value := bif decide (askE d item day = 0) then [pv (lefD d item (day.toNat + 1)), .int .i64 0] else [pv (0, 0), .int .i64 (askE d item day)]
set_option maxRecDepth 100000 in
theorem C_balls_Need (d : Dp) (a : DA) (item day : Int) (w : World) (h : DpR w d a) : C0 Tryz.prog 11 [d.val a, .int .i64 item, .int .i64 day] w (.tuple (needR d item day).toArray) := by
 refine ⟨en Tryz.func11 Tryz.ntmps11 ((St.init w).share (e := .ro a.sA 1 d.st.length (encI d.st)) h.s rfl rfl rfl) (h := fun F => ?_)⟩
 refine sr ?_
 refine bxA (h := fun b0 => ?_)
 refine al (h := fun b1 => ?_)
 refine ww ?_
 refine nr ?_
 iterate 3 refine ww ?_
 refine cl0 (hc := fun w hS => C_balls_ask d a item day w (h.old hS)) (h := ?_)
 iterate 3 refine ww ?_
 refine al (h := fun b1 => ?_)
 refine WL.blkTo (numE 244 fun _ => 0) .here (by rfl) ?_
 refine stW (h1 := askW_one _ _ _) (hsz := askW_len _ _ _) (ho := by rw [askW_len, numE_len]) (h := ?_)
 refine ww ?_
 refine nq ?_
 refine sq ?_
 refine sr ?_
 iterate 2 refine ww ?_
 refine nq ?_
 refine czz (fun h0 => ?_) fun h0 => ?_
 ·
  have hE : needR d item day = [pv (0, 0), .int .i64 (askE d item day)] := by rw [needR, show decide (askE d item day = 0) = false by simpa using h0]; rfl
  refine sr ?_
  iterate 2 refine ww ?_
  first | refine stA (h := ?_) | refine stEA (h := ?_)
  refine ww ?_
  refine nq ?_
  refine rtn ?_
  refine q_then_ret ?_
  refine q_ret (hR := ?_)
  rw [hE]
  exact fun w hS => ⟨rfl, hS.sub slz_⟩
 ·
  have hE0 : askE d item day = 0 := by simpa using h0
  have hE : needR d item day = [pv (needD d item day.toNat), .int .i64 0] := by rw [needR, decide_eq_true hE0]; rfl
  obtain ⟨hG, hi, hd⟩ := ask_ok hE0
  rw [askW_ok hE0]
  refine skp ?_
  refine q_seq ?_
  refine sr ?_
  iterate 2 refine ww ?_
  refine wy (ixA (hb := by omega)) ?_
  refine WL.y (hy := ldP (vs := [.int .i64 (needD d item day.toNat).1, .int .i64 (needD d item day.toNat).2]) (hc := fun j v hj => by
   rcases j with _ | _ | j
   ·
    cases hj; exact wk_need1 _ _ (k := day.toNat) (by omega) (by omega)
   ·
    cases hj; exact wk_need2 _ _ (k := day.toNat) (by omega) (by omega)
   ·
    simp at hj)) (h := ?_)
  first | refine stA (h := ?_) | refine stEA (h := ?_)
  refine ww ?_
  refine nq ?_
  refine rtn ?_
  refine q_ret (hR := ?_)
  rw [hE]
  exact fun w hS => ⟨rfl, hS.sub slz_⟩
set_option maxRecDepth 100000 in
theorem C_balls_Left (d : Dp) (a : DA) (item day : Int) (w : World) (h : DpR w d a) : C0 Tryz.prog 12 [d.val a, .int .i64 item, .int .i64 day] w (.tuple (leftR d item day).toArray) := by
 refine ⟨en Tryz.func12 Tryz.ntmps12 ((St.init w).share (e := .ro a.sA 1 d.st.length (encI d.st)) h.s rfl rfl rfl) (h := fun F => ?_)⟩
 refine sr ?_
 refine bxA (h := fun b0 => ?_)
 refine al (h := fun b1 => ?_)
 refine ww ?_
 refine nr ?_
 iterate 3 refine ww ?_
 refine cl0 (hc := fun w hS => C_balls_ask d a item day w (h.old hS)) (h := ?_)
 iterate 3 refine ww ?_
 refine al (h := fun b1 => ?_)
 refine WL.blkTo (numE 244 fun _ => 0) .here (by rfl) ?_
 refine stW (h1 := askW_one _ _ _) (hsz := askW_len _ _ _) (ho := by rw [askW_len, numE_len]) (h := ?_)
 refine ww ?_
 refine nq ?_
 refine sq ?_
 refine sr ?_
 iterate 2 refine ww ?_
 refine nq ?_
 refine czz (fun h0 => ?_) fun h0 => ?_
 ·
  have hE : leftR d item day = [pv (0, 0), .int .i64 (askE d item day)] := by rw [leftR, show decide (askE d item day = 0) = false by simpa using h0]; rfl
  refine sr ?_
  iterate 2 refine ww ?_
  first | refine stA (h := ?_) | refine stEA (h := ?_)
  refine ww ?_
  refine nq ?_
  refine rtn ?_
  refine q_then_ret ?_
  refine q_ret (hR := ?_)
  rw [hE]
  exact fun w hS => ⟨rfl, hS.sub slz_⟩
 ·
  have hE0 : askE d item day = 0 := by simpa using h0
  have hE : leftR d item day = [pv (lefD d item (day.toNat + 1)), .int .i64 0] := by rw [leftR, decide_eq_true hE0]; rfl
  obtain ⟨hG, hi, hd⟩ := ask_ok hE0
  rw [askW_ok hE0]
  refine skp ?_
  refine q_seq ?_
  refine sr ?_
  iterate 2 refine ww ?_
  refine wy (ixA (hb := by omega)) ?_
  refine WL.y (hy := ldP (vs := [.int .i64 (lefD d item (day.toNat + 1)).1, .int .i64 (lefD d item (day.toNat + 1)).2]) (hc := fun j v hj => by
   rcases j with _ | _ | j
   ·
    cases hj; exact wk_left1 _ _ (k := day.toNat) (by omega) (by omega)
   ·
    cases hj; exact wk_left2 _ _ (k := day.toNat) (by omega) (by omega)
   ·
    simp at hj)) (h := ?_)
  first | refine stA (h := ?_) | refine stEA (h := ?_)
  refine ww ?_
  refine nq ?_
  refine rtn ?_
  refine q_ret (hR := ?_)
  rw [hE]
  exact fun w hS => ⟨rfl, hS.sub slz_⟩
end Go.Proofs.YtpmmgljndceplaaGreat

namespace Go.Proofs.YtpmmgljndceplaaGreat
open Go Go.RowKit

theorem accN_succ {d : Dp} {item : Int} {dd k : Nat} {x : Fx} (h : d.fx[k]? = some x) : accN d item (k + 1) dd = bif decide (x.day = (dd : Int)) then ((accN d item k dd).1 + (ndV d.each d.tow d.fra x item).1, (accN d item k dd).2 + (ndV d.each d.tow d.fra x item).2) else accN d item k dd := by rw [accN, h]
end Go.Proofs.YtpmmgljndceplaaGreat

namespace Go.Proofs.YtpmmgljndceplaaGreat
open Go Go.RowKit

structure CE where
 (won g : Pr) (n t : Int) (v : Cs)
def fndC (l : List CE) (won g : Pr) (n t : Int) : Option CE := l.find? fun e => decide (e.won = won) && decide (e.g = g) && decide (e.n = n) && decide (e.t = t)
def lkC2 (l : List CE) : Pr → Pr → Int → Int → Cs := fun won g n t => match fndC l won g n t with
 | some e => e.v
 | none => zC
def sideOk (f : Fmt) (l : List CE) (e : CE) (side : Int) : Bool := overS f e.won e.g side || (fndC l (wonS f e.won e.g side) (gamS f e.won e.g side) (e.n + 1) (tieN f e.won e.g)).isSome
def okC (f : Fmt) (l : List CE) : Bool := l.all fun e => decide (e.v = orV (courV (lkC2 l) f e.won e.g e.n e.t 0) (courV (lkC2 l) f e.won e.g e.n e.t 1)) && sideOk f l e 0 && sideOk f l e 1
theorem fnd_is {l : List CE} {won g : Pr} {n t : Int} {e : CE} (h : fndC l won g n t = some e) : e ∈ l ∧ e.won = won ∧ e.g = g ∧ e.n = n ∧ e.t = t := by
 have h1 := List.mem_of_find?_eq_some h
 have h2 := List.find?_some h
 simp only [Bool.and_eq_true, decide_eq_true_eq] at h2
 exact ⟨h1, h2.1.1.1, h2.1.1.2, h2.1.2, h2.2⟩
theorem cert_ok {f : Fmt} (hf : f.Ok) (hb : Bdd f) {l : List CE} (h : okC f l = true) : ∀ (k : Nat) (won g : Pr) (n t : Int), Vs f won g → remV f won g ≤ k → (fndC l won g n t).isSome = true → fromP f won g n t = lkC2 l won g n t
 | 0, won, g, n, t, hV, hr, _ => by have := rem_pos hf hb hV; omega
 | k + 1, won, g, n, t, hV, hr, hs => by
  obtain ⟨e, he⟩ := Option.isSome_iff_exists.1 hs
  obtain ⟨hm, rfl, rfl, rfl, rfl⟩ := fnd_is he
  have hok := List.all_eq_true.1 h e hm
  simp only [Bool.and_eq_true, decide_eq_true_eq] at hok
  obtain ⟨⟨hv, h0⟩, h1⟩ := hok
  have hl : lkC2 l e.won e.g e.n e.t = e.v := by unfold lkC2; rw [he]
  have hc : ∀ side : Int, side = 0 ∨ side = 1 → sideOk f l e side = true → courV (fromP f) f e.won e.g e.n e.t side = courV (lkC2 l) f e.won e.g e.n e.t side := fun side hsd hso => by
   unfold courV
   cases ho : overS f e.won e.g side
   ·
    obtain ⟨hV', hr'⟩ := step_ok' hf hb hsd hV ho
    rw [sideOk, ho, Bool.false_or] at hso
    rw [cert_ok hf hb h k _ _ _ _ hV' (by omega) hso]
   ·
    rfl
  rw [from_eq hf hb hV, hl, hv, hc 0 (.inl rfl) h0, hc 1 (.inr rfl) h1]
def exC : List CE := [⟨(0, 0), (0, 0), 0, 0, ((1, 3), (1, 2))⟩, ⟨(0, 0), (0, 1), 1, 0, ((1, 3), (1, 2))⟩, ⟨(0, 0), (1, 0), 1, 0, ((1, 3), (1, 2))⟩, ⟨(0, 0), (1, 1), 2, 0, ((1, 2), (1, 2))⟩, ⟨(0, 0), (1, 2), 3, 0, ((1, 2), (1, 2))⟩, ⟨(0, 0), (2, 1), 3, 0, ((1, 2), (1, 2))⟩, ⟨(0, 0), (2, 2), 4, 0, ((1, 2), (1, 2))⟩, ⟨(0, 1), (0, 0), 2, 0, ((0, 1), (0, 1))⟩, ⟨(0, 1), (0, 0), 4, 0, ((0, 1), (0, 1))⟩, ⟨(0, 1), (0, 0), 5, 1, ((1, 2), (0, 1))⟩, ⟨(0, 1), (0, 1), 3, 0, ((0, 1), (0, 1))⟩, ⟨(0, 1), (0, 1), 5, 0, ((0, 1), (0, 1))⟩, ⟨(0, 1), (0, 1), 6, 0, ((0, 1), (0, 1))⟩, ⟨(0, 1), (1, 0), 3, 0, ((0, 1), (0, 1))⟩, ⟨(0, 1), (1, 0), 5, 0, ((0, 1), (0, 1))⟩, ⟨(0, 1), (1, 0), 6, 0, ((0, 1), (0, 1))⟩, ⟨(0, 1), (1, 1), 4, 0, ((0, 0), (0, 1))⟩, ⟨(0, 1), (1, 1), 6, 0, ((0, 0), (0, 1))⟩, ⟨(0, 1), (1, 1), 7, 0, ((1, 1), (0, 1))⟩, ⟨(0, 1), (1, 2), 5, 0, ((0, 0), (0, 1))⟩, ⟨(0, 1), (1, 2), 7, 0, ((0, 0), (0, 1))⟩, ⟨(0, 1), (1, 2), 8, 0, ((0, 0), (0, 1))⟩, ⟨(0, 1), (2, 1), 5, 0, ((0, 0), (0, 1))⟩, ⟨(0, 1), (2, 1), 7, 0, ((0, 0), (0, 1))⟩, ⟨(0, 1), (2, 1), 8, 0, ((0, 0), (0, 1))⟩, ⟨(0, 1), (2, 2), 6, 0, ((0, 0), (0, 1))⟩, ⟨(0, 1), (2, 2), 8, 0, ((0, 0), (0, 1))⟩, ⟨(0, 1), (2, 2), 9, 0, ((0, 0), (0, 1))⟩, ⟨(1, 0), (0, 0), 2, 0, ((0, 1), (0, 1))⟩, ⟨(1, 0), (0, 0), 4, 0, ((0, 1), (0, 1))⟩, ⟨(1, 0), (0, 0), 5, 1, ((1, 2), (0, 1))⟩, ⟨(1, 0), (0, 1), 3, 0, ((0, 1), (0, 1))⟩, ⟨(1, 0), (0, 1), 5, 0, ((0, 1), (0, 1))⟩, ⟨(1, 0), (0, 1), 6, 0, ((0, 1), (0, 1))⟩, ⟨(1, 0), (1, 0), 3, 0, ((0, 1), (0, 1))⟩, ⟨(1, 0), (1, 0), 5, 0, ((0, 1), (0, 1))⟩, ⟨(1, 0), (1, 0), 6, 0, ((0, 1), (0, 1))⟩, ⟨(1, 0), (1, 1), 4, 0, ((0, 0), (0, 1))⟩, ⟨(1, 0), (1, 1), 6, 0, ((0, 0), (0, 1))⟩, ⟨(1, 0), (1, 1), 7, 0, ((1, 1), (0, 1))⟩, ⟨(1, 0), (1, 2), 5, 0, ((0, 0), (0, 1))⟩, ⟨(1, 0), (1, 2), 7, 0, ((0, 0), (0, 1))⟩, ⟨(1, 0), (1, 2), 8, 0, ((0, 0), (0, 1))⟩, ⟨(1, 0), (2, 1), 5, 0, ((0, 0), (0, 1))⟩, ⟨(1, 0), (2, 1), 7, 0, ((0, 0), (0, 1))⟩, ⟨(1, 0), (2, 1), 8, 0, ((0, 0), (0, 1))⟩, ⟨(1, 0), (2, 2), 6, 0, ((0, 0), (0, 1))⟩, ⟨(1, 0), (2, 2), 8, 0, ((0, 0), (0, 1))⟩, ⟨(1, 0), (2, 2), 9, 0, ((0, 0), (0, 1))⟩, ⟨(1, 1), (0, 0), 4, 0, ((0, 0), (0, 0))⟩, ⟨(1, 1), (0, 0), 6, 0, ((0, 0), (0, 0))⟩, ⟨(1, 1), (0, 0), 7, 0, ((0, 0), (0, 0))⟩, ⟨(1, 1), (0, 0), 7, 1, ((0, 0), (0, 0))⟩, ⟨(1, 1), (0, 0), 8, 0, ((0, 0), (0, 0))⟩, ⟨(1, 1), (0, 0), 9, 0, ((0, 0), (0, 0))⟩, ⟨(1, 1), (0, 0), 9, 1, ((0, 0), (0, 0))⟩, ⟨(1, 1), (0, 0), 10, 1, ((0, 0), (0, 0))⟩]
theorem exC_ok : okC exF exC = true := by kernel_rfl
theorem exF_ok : exF.Ok := fmt_ok (by decide)
theorem exF_bdd : Bdd exF := by unfold Bdd exF; decide
theorem ex_rest1 : restC exF ⟨[], (0, 0), (0, 0)⟩ = ((1, 3), (2, 3)) := by
 have hV : Vs exF (0, 0) (0, 0) := ⟨by decide, by decide⟩
 have h1 := cert_ok exF_ok exF_bdd exC_ok 15 (0, 0) (0, 0) 0 0 hV (by decide) (by kernel_rfl)
 have h2 : lkC2 exC (0, 0) (0, 0) 0 0 = ((1, 3), (1, 2)) := by kernel_rfl
 show bumpC (fromP exF (0, 0) (0, 0) 0 0) false true = _
 rw [h1, h2]; rfl
theorem ex_rest2 : restC exF ⟨[(3, 1)], (0, 1), (0, 0)⟩ = ((0, 1), (0, 1)) := by
 have hV : Vs exF (1, 0) (0, 1) := ⟨by decide, by decide⟩
 have h1 := cert_ok exF_ok exF_bdd exC_ok 15 (1, 0) (0, 1) 5 0 hV (by decide) (by kernel_rfl)
 have h2 : lkC2 exC (1, 0) (0, 1) 5 0 = ((0, 1), (0, 1)) := by kernel_rfl
 show bumpC (fromP exF (1, 0) (0, 1) 5 0) false false = _
 rw [h1, h2]; rfl
theorem ex_arises2 : arisesV exF ⟨[(3, 1)], (0, 1), (0, 0)⟩ = ((1, 0), true) := by
 have h0 : setsTo (tableV exF) exF [((3 : Int), (1 : Int))] 0 = ⟨(0, 0), 1, true⟩ := rfl
 have h1 : setsTo (tableV exF) exF [((3 : Int), (1 : Int))] (0 + 1) = setStep (tableV exF) exF (setsTo (tableV exF) exF [((3 : Int), (1 : Int))] 0) (3, 1) := setsTo_succ rfl (by rw [h0])
 have h2 : setV exF (0, 0) = (2, 3) := by decide
 have h3 : setsTo (tableV exF) exF (Brd.mk [(3, 1)] (0, 1) (0, 0)).st (Brd.mk [(3, 1)] (0, 1) (0, 0)).st.length = ⟨(1, 0), 2, true⟩ := by
  show setsTo (tableV exF) exF [((3 : Int), (1 : Int))] (0 + 1) = _
  rw [h1, h0, setStep]
  dsimp only
  rw [h2, ex_table]
  kernel_rfl
 have h4 : setV exF (1, 0) = (2, 3) := by decide
 rw [arisesV, arisesT, h3]
 dsimp only
 rw [h4, ex_table]
 exact (by kernel_rfl : ((bif !true then (((1 : Int), (0 : Int)), false) else bif overV exF (1, 0) then ((1, 0), isZ (0, 1) && isZ (0, 0)) else bif !(tget exT (0, 1)).isSome || (tat exT (0, 1)).2 then ((1, 0), false) else bif isZ (0, 0) then ((1, 0), true) else ((1, 0), (befV exF (2, 3) (brksV (2, 3) (0, 1)) (0 - 1, 0) || befV exF (2, 3) (brksV (2, 3) (0, 1)) (0, 0 - 1)) && befV exF (2, 3) (brksV (2, 3) (0, 1)) (0, 0))) = (((1 : Int), (0 : Int)), true)))
theorem ex_check1 : checkE exF ⟨[], (0, 0), (0, 0)⟩ = 0 := by
 unfold checkE
 rw [ex_arises]
 kernel_rfl
theorem ex_check2 : checkE exF ⟨[(3, 1)], (0, 1), (0, 0)⟩ = 0 := by
 unfold checkE
 rw [ex_arises2]
 kernel_rfl
def exD (A : Option Addr) (c : Nat) : Dp := ⟨2, 3, 1, [10, 30, 9], [⟨1, exF, ⟨[], (0, 0), (0, 0)⟩, none, 0⟩, ⟨1, exF, ⟨[(3, 1)], (0, 1), (0, 0)⟩, A, c⟩, ⟨2, exF, ⟨[], (0, 0), (0, 0)⟩, none, 0⟩], [⟨2, 0, 3⟩]⟩
section
variable {A : Option Addr} {c : Nat}
theorem ex_dep : depE (exD A c) = 0 := by
 have h1 : fxOk ⟨1, exF, ⟨[], (0, 0), (0, 0)⟩, none, 0⟩ = true := by unfold fxOk; dsimp only; rw [ex_check1]; rfl
 have h2 : fxOk ⟨1, exF, ⟨[(3, 1)], (0, 1), (0, 0)⟩, A, c⟩ = true := by unfold fxOk; dsimp only; rw [ex_check2]; rfl
 have h3 : fxOk ⟨2, exF, ⟨[], (0, 0), (0, 0)⟩, none, 0⟩ = true := by unfold fxOk; dsimp only; rw [ex_check1]; rfl
 exact dep_yes (by rfl) (by rfl) (by rfl) (by unfold fxB exD; simp only [List.all_cons, List.all_nil, h1, h2, h3, Bool.and_self]) (by rfl)
theorem ex_nd1 (d : Int) (B : Option Addr) (k : Nat) : ndV 2 3 1 ⟨d, exF, ⟨[], (0, 0), (0, 0)⟩, B, k⟩ 0 = (4, 8) := by
 unfold ndV; dsimp only; rw [ex_rest1]; rfl
theorem ex_nd2 (d : Int) (B : Option Addr) (k : Nat) : ndV 2 3 1 ⟨d, exF, ⟨[(3, 1)], (0, 1), (0, 0)⟩, B, k⟩ 0 = (0, 2) := by
 unfold ndV; dsimp only; rw [ex_rest2]; rfl
theorem ex_need (dd : Nat) : needD (exD A c) 0 dd = if dd = 1 then (4, 10) else if dd = 2 then (4, 8) else (0, 0) := by
 show accN (exD A c) 0 3 dd = _
 rw [accN_succ (k := 2) rfl, accN_succ (k := 1) rfl, accN_succ (k := 0) rfl]
 simp only [exD, ex_nd1, ex_nd2, accN]
 by_cases h1 : dd = 1
 ·
  subst h1; rfl
 ·
  by_cases h2 : dd = 2
  ·
   subst h2; rfl
  ·
   rw [if_neg h1, if_neg h2, decide_eq_false (show ¬ (1 : Int) = (dd : Int) by omega), decide_eq_false (show ¬ (2 : Int) = (dd : Int) by omega)]; rfl
theorem ex_cr (dd : Nat) : crT (exD A c) 0 dd 1 = if dd = 2 then 3 else 0 := by
 rw [crT_succ (k := 0) rfl]
 by_cases h2 : dd = 2
 ·
  subst h2; rfl
 ·
  rw [if_neg h2]
  dsimp only
  rw [decide_eq_false (show ¬ (2 : Int) = (dd : Int) by omega)]; rfl
theorem ex_lef_succ (k : Nat) : lefD (exD A c) 0 (k + 1) = ((lefD (exD A c) 0 k).1 + (if k = 2 then 3 else 0) - (if k = 1 then ((4 : Int), (10 : Int)) else if k = 2 then (4, 8) else (0, 0)).2, (lefD (exD A c) 0 k).2 + (if k = 2 then 3 else 0) - (if k = 1 then ((4 : Int), (10 : Int)) else if k = 2 then (4, 8) else (0, 0)).1) := by
 rw [lefD, ex_need, show (exD A c).cr.length = 1 from rfl, ex_cr]
theorem ex_lef : ∀ k : Nat, lefD (exD A c) 0 (k + 3) = (-5, 5)
 | 0 => by
  rw [ex_lef_succ, ex_lef_succ, ex_lef_succ]; rfl
 | k + 1 => by
  rw [show k + 1 + 3 = (k + 3) + 1 by omega, ex_lef_succ, ex_lef k, if_neg (by omega), if_neg (by omega), if_neg (by omega)]; rfl
theorem ex_askE : askE (exD A c) 0 2 = 0 := by
 unfold askE; rw [ex_dep]; rfl
theorem ex_left : leftR (exD A c) 0 2 = [pv (-5, 5), .int .i64 0] := by
 rw [leftR, decide_eq_true ex_askE, cond_true, show ((2 : Int).toNat + 1) = 0 + 3 from rfl, ex_lef]
end
end Go.Proofs.YtpmmgljndceplaaGreat

namespace Go.Proofs.YtpmmgljndceplaaGreat
open Go Go.RowKit

def farF (f : Fmt) : Bool := decide (4 < f.games) && decide (f.games ≤ 8)
theorem C_law9_far (f : Fmt) (w : World) : C0 Tryz.prog 19 [f.val] w (.bool (farF f)) := by
 refine ⟨en Tryz.func19 Tryz.ntmps19 (St.init w) (h := fun F => ?_)⟩
 refine sr ?_
 refine bxA (h := fun b0 => ?_)
 refine ww ?_
 refine nr ?_
 iterate 4 refine ww ?_
 apply brAnd 4 6 10 (by exact rfl)
 ·
  intro hb0
  iterate 3 refine uw ?_
  refine ww ?_
  exact mg (by repeat (first | exact trivial | refine ⟨rfl, ?_⟩ | refine ⟨by rw [hb0]; rfl, ?_⟩)) slz_
 ·
  intro hb0
  repeat (first | refine uz ?_ | refine kz ?_ | refine wz ?_)
  exact mg (by repeat (first | exact trivial | refine ⟨rfl, ?_⟩ | refine ⟨by rw [hb0]; rfl, ?_⟩)) slz_
 refine ww ?_
 refine nq ?_
 refine rtn ?_
 refine q_ret (hR := ?_)
 exact fun w hS => ⟨rfl, hS.sub slz_⟩
def farX (x : Fx) : Bool := farF x.f || decide (40 < (x.b.st.length : Int))
def farN (d : Dp) : Bool := decide (40 < (d.st.length : Int)) || decide (60 < (d.cr.length : Int)) || (decide (4 < (d.fx.length : Int)) && decide ((d.fx.length : Int) ≤ 30)) || decide (60 < (d.fx.length : Int))
def farD (d : Dp) : Bool := farN d || d.fx.any farX
theorem any_no {α : Type} {l : List α} {p : α → Bool} (h : ∀ i x, i < l.length → l[i]? = some x → p x = false) : l.any p = false :=
 List.any_eq_false.2 fun x hx => by
  obtain ⟨i, hi, e⟩ := List.getElem_of_mem hx
  rw [h i x hi (by rw [List.getElem?_eq_getElem hi, e])]; decide
theorem far_sm {d : Dp} (h : farD d = false) : (d.st.length ≤ 40 ∧ d.cr.length ≤ 60 ∧ d.fx.length ≤ 60) ∧ ∀ x ∈ d.fx, x.b.st.length ≤ 40 := by
 unfold farD farN at h
 simp only [Bool.or_eq_false_iff, decide_eq_false_iff_not] at h
 refine ⟨by omega, fun x hx => ?_⟩
 have := List.any_eq_false.1 h.2 x hx
 unfold farX at this
 simp only [Bool.or_eq_true, decide_eq_true_eq, not_or] at this
 omega
set_option maxRecDepth 100000 in
theorem C_law9_Far (d : Dp) (a : DA) (w : World) (h : DpR w d a) : C0 Tryz.prog 5 [d.val a] w (.bool (farD d)) := by
 have hfc := h.fc
 refine ⟨en Tryz.func5 Tryz.ntmps5 ((St.init w).share (e := .ro a.fA 16 d.fx.length (d.fx.map Fx.enc)) h.f rfl rfl rfl) (h := fun F => ?_)⟩
 refine sr ?_
 refine bxA (h := fun b0 => ?_)
 refine ww ?_
 refine nq ?_
 refine sq ?_
 refine sr ?_
 iterate 5 refine ww ?_
 apply brOr 5 8 13 (by exact rfl)
 ·
  intro hb0
  iterate 4 refine uw ?_
  refine ww ?_
  exact mg (by repeat (first | exact trivial | refine ⟨rfl, ?_⟩ | refine ⟨by rw [hb0]; rfl, ?_⟩)) slz_
 ·
  intro hb0
  repeat (first | refine uz ?_ | refine kz ?_ | refine wz ?_)
  exact mg (by repeat (first | exact trivial | refine ⟨rfl, ?_⟩ | refine ⟨by rw [hb0]; rfl, ?_⟩)) slz_
 refine ww ?_
 apply brOr 11 14 25 (by exact rfl)
 ·
  intro hb1
  iterate 5 refine uw ?_
  apply brAnd 5 19 24 (by exact rfl)
  ·
   intro hb2
   iterate 5 refine uw ?_
   exact mg (by repeat (first | exact trivial | refine ⟨rfl, ?_⟩ | refine ⟨by rw [hb2]; rfl, ?_⟩ | refine ⟨by rw [hb1]; rfl, ?_⟩)) slz_
  ·
   intro hb2
   repeat (first | refine uz ?_ | refine kz ?_ | refine wz ?_)
   exact mg (by repeat (first | exact trivial | refine ⟨rfl, ?_⟩ | refine ⟨by rw [hb2]; rfl, ?_⟩ | refine ⟨by rw [hb1]; rfl, ?_⟩)) slz_
  refine ww ?_
  exact mg (by repeat (first | exact trivial | refine ⟨rfl, ?_⟩ | refine ⟨by rw [hb1]; rfl, ?_⟩)) slz_
 ·
  intro hb1
  repeat (first | refine uz ?_ | refine kz ?_ | refine wz ?_)
  exact mg (by repeat (first | exact trivial | refine ⟨rfl, ?_⟩ | refine ⟨by rw [hb1]; rfl, ?_⟩)) slz_
 refine ww ?_
 apply brOr 5 26 31 (by exact rfl)
 ·
  intro hb3
  iterate 4 refine uw ?_
  refine ww ?_
  exact mg (by repeat (first | exact trivial | refine ⟨rfl, ?_⟩ | refine ⟨by rw [hb3]; rfl, ?_⟩)) slz_
 ·
  intro hb3
  repeat (first | refine uz ?_ | refine kz ?_ | refine wz ?_)
  exact mg (by repeat (first | exact trivial | refine ⟨rfl, ?_⟩ | refine ⟨by rw [hb3]; rfl, ?_⟩)) slz_
 refine nq ?_
 refine czz (fun h4 => ?_) fun h4 => ?_
 ·
  have hN : farN d = true := h4
  have hE : farD d = true := by rw [farD, hN]; rfl
  refine sr ?_
  refine ww ?_
  refine nq ?_
  refine rtn ?_
  refine q_then_ret ?_
  refine q_ret (hR := ?_)
  rw [hE]
  exact fun w hS => ⟨rfl, hS.sub slz_⟩
 ·
  have hN : farN d = false := h4
  refine skp ?_
  refine q_seq ?_
  refine sq ?_
  refine sr ?_
  refine ww ?_
  refine nq ?_
  refine bk ?_
  refine lp (X := Nat) (I := fun k => k ≤ d.fx.length ∧ ∀ i x, i < k → d.fx[i]? = some x → farX x = false) (le := fun k => [(1, .pointer (some ⟨b0, 0, none⟩)), (3, .int .i64 k)]) (Le := fun _ => [.blk b0 28 (d.cells a), .ro a.fA 16 d.fx.length (d.fx.map Fx.enc)]) (μ := fun k => d.fx.length - k) 0 ⟨Nat.zero_le _, fun i x hi => by omega⟩ sbz_ slz_ (fun k hk => ?_)
  obtain ⟨hk0, hku⟩ := hk
  refine sq ?_
  refine sr ?_
  iterate 5 refine ww ?_
  refine nq ?_
  refine czz (fun h5 => ?_) fun h5 => ?_
  ·
   have hkn : k < d.fx.length := by have := of_decide_eq_true h5; omega
   obtain ⟨x, hx⟩ : ∃ x, d.fx[k]? = some x := ⟨_, List.getElem?_eq_getElem hkn⟩
   refine skp ?_
   refine q_seq ?_
   refine sq ?_
   refine bk ?_
   refine sr ?_
   iterate 3 refine ww ?_
   refine wy (ix (A := a.fA) (m := d.fx.length)) ?_
   refine ww ?_
   refine wy (ldEA (A := a.fA) (hk := map_at hx) (j := 1) (vs := x.f.cells) (hc := .skip (Tk.cons (.cons (.cons (.cons (.cons (.cons (.cons (.cons (.cons (.cons .nil)))))))))))) ?_
   refine cl0 (hc := fun w hS => C_law9_far _ w) (h := ?_)
   refine ww ?_
   apply brOr 10 46 56 (by exact rfl)
   ·
    intro hb6
    iterate 3 refine uw ?_
    refine uz ?_
    refine wy (ix (A := a.fA) (m := d.fx.length)) ?_
    refine uw ?_
    refine uz ?_
    refine wy (faE (A := a.fA) (i := k) (j := 11)) ?_
    refine uz ?_
    refine wy (ldE (A := a.fA) (hk := map_at hx)) ?_
    iterate 2 refine uw ?_
    refine ww ?_
    exact mg (by repeat (first | exact trivial | refine ⟨rfl, ?_⟩ | refine ⟨by rw [hb6]; rfl, ?_⟩)) slz_
   ·
    intro hb6
    repeat (first | refine uz ?_ | refine kz ?_ | refine wz ?_)
    exact mg (by repeat (first | exact trivial | refine ⟨rfl, ?_⟩ | refine ⟨by rw [hb6]; rfl, ?_⟩)) slz_
   refine nq ?_
   refine czz (fun h7 => ?_) fun h7 => ?_
   ·
    have hE : farD d = true := by rw [farD, hN, Bool.false_or]; exact List.any_eq_true.2 ⟨x, List.mem_of_getElem? hx, h7⟩
    refine sr ?_
    refine ww ?_
    refine nq ?_
    refine rtn ?_
    refine q_blk_ret ?_
    iterate 2 refine q_then_ret ?_
    refine q_blk_ret ?_
    refine q_then_ret ?_
    refine q_ret (hR := ?_)
    rw [hE]
    exact fun w hS => ⟨rfl, hS.sub slz_⟩
   ·
    have hxn : farX x = false := h7
    have hkn2 : ∀ i y, i < k + 1 → d.fx[i]? = some y → farX y = false := fun i y hi hy => by
     by_cases e : i = k
     ·
      subst e
      rw [hx] at hy
      rw [← Option.some.inj hy]; exact hxn
     ·
      exact hku i y (by omega) hy
    refine skp ?_
    refine q_blk_norm ?_
    refine q_seq ?_
    refine rg ?_
    iterate 3 refine ww ?_
    refine nl ?_
    refine rn (x := k) (k + 1) ⟨hkn, hkn2⟩ (by omega) sbz_ slz_
  ·
   have hkn : k = d.fx.length := by have := of_decide_eq_false h5; omega
   have hE : farD d = false := by rw [farD, hN, any_no fun i x hi hx => hku i x (by omega) hx]; rfl
   refine et ?_
   iterate 2 refine q_then_exit ?_
   refine q_blk_hit ?_
   refine q_seq ?_
   refine sr ?_
   refine ww ?_
   refine nq ?_
   refine rtn ?_
   refine q_ret (hR := ?_)
   rw [hE]
   exact fun w hS => ⟨rfl, hS.sub slz_⟩
section
variable {d : Dp}
end
def Fx.row (x : Fx) : Row := ⟨x.A, 2, x.b.st.length, encP x.b.st⟩
end Go.Proofs.YtpmmgljndceplaaGreat

namespace Go.Proofs.YtpmmgljndceplaaGreat
open Go Go.RowKit

def Fx.at_ (x : Fx) (A : Option Addr) (c : Nat) : Fx := { x with A := A, c := c }
def SmD (d : Dp) : Prop := (d.st.length ≤ 1000 ∧ d.cr.length ≤ 1000 ∧ d.fx.length ≤ 1000) ∧ ∀ x ∈ d.fx, x.b.st.length ≤ 1000
def Dp.plus (d : Dp) (item day more : Int) : Dp := { d with cr := d.cr ++ [⟨day, item, more⟩] }
end Go.Proofs.YtpmmgljndceplaaGreat

namespace Go.Proofs.YtpmmgljndceplaaGreat
open Go Go.RowKit

structure EX where
 (a : DA) (A : Option Addr)
set_option maxRecDepth 100000 in
set_option maxHeartbeats 2000000 in
theorem C_law9_Example (w : World) : CR Tryz.prog 22 [] w (fun x : EX => x.a.sc = 3 ∧ x.a.fc = 3 ∧ x.a.cc = 1) (fun x => (exD x.A 1).val x.a)
  (fun x => [.own x.a.sA 3 3 1 3 (encI [10, 30, 9]), .own x.a.fA 3 42 16 3 ((exD x.A 1).fx.map Fx.enc), .own x.a.cA 1 60 3 1 ((exD x.A 1).cr.map Cx.enc), .own x.A 1 38 2 1 (encP [(3, 1)])]) := by
 refine ⟨en Tryz.func22 Tryz.ntmps22 (St.init w) (h := fun F => ?_)⟩
 refine sr ?_
 refine al (h := fun b0 => ?_)
 refine nr ?_
 refine cl (hc := fun w hS => C_law1_Example w) (h := fun y hy => ?_)
 iterate 3 refine ww ?_
 refine al (h := fun b1 => ?_)
 first | refine stA (h := ?_) | refine stEA (h := ?_)
 refine ww ?_
 refine nr ?_
 refine ww ?_
 refine bs (h := fun b2 => ?_)
 iterate 4 refine ww ?_
 refine bs (h := fun b3 => ?_)
 iterate 5 refine ww ?_
 refine bs (h := fun b4 => ?_)
 refine ww ?_
 refine bs (h := fun b5 => ?_)
 refine ww ?_
 first | refine stA (h := ?_) | refine stEA (h := ?_)
 refine nq ?_
 refine rtn ?_
 refine q_ret (hR := ?_)
 exact fun w hS => ⟨⟨⟨_, _, _, 3, 3, 1⟩, _⟩, ⟨rfl, rfl, rfl⟩, rfl, hS.sub slz_⟩
theorem ex_dpr {w0 w : World} {L : List Ent} (hS : St w0 w L) {x : EX} (hx : x.a.sc = 3 ∧ x.a.fc = 3 ∧ x.a.cc = 1) (h1 : Rds L x.a.sA 1 3 (encI [10, 30, 9])) (h2 : Rds L x.a.fA 16 3 ((exD x.A 1).fx.map Fx.enc)) (h3 : Rds L x.a.cA 3 1 ((exD x.A 1).cr.map Cx.enc)) (h4 : Rds L x.A 2 1 (encP [(3, 1)])) : DpR w (exD x.A 1) x.a :=
 ⟨hS.get h1, hS.get h2, hS.get h3, fun y hy => by
  simp only [exD, List.mem_cons, List.not_mem_nil, or_false] at hy
  rcases hy with rfl | rfl | rfl
  ·
   exact ⟨Rd.nil w none 2, Nat.le_refl _, Nat.zero_le _⟩
  ·
   exact ⟨hS.get h4, Nat.le_refl _, by dsimp only; omega⟩
  ·
   exact ⟨Rd.nil w none 2, Nat.le_refl _, Nat.zero_le _⟩, by show 3 ≤ _; omega, by show 3 ≤ _; omega, by show 1 ≤ _; omega⟩
end Go.Proofs.YtpmmgljndceplaaGreat

namespace Go.Proofs.YtpmmgljndceplaaGreat
open Go Go.RowKit

theorem far_smd {d : Dp} (h : farD d = false) : SmD d := by
 obtain ⟨h1, h2⟩ := far_sm h
 exact ⟨by omega, fun x hx => by have := h2 x hx; omega⟩
section
variable {d o : Dp}
end
end Go.Proofs.YtpmmgljndceplaaGreat

namespace Go.Proofs.YtpmmgljndceplaaGreat
open Go Go.RowKit

theorem ask_zero {d : Dp} (h : depE d = 0) {item day : Int} (hi : 0 ≤ item ∧ item ≤ 2) (hd : 0 ≤ day ∧ day ≤ 60) : askE d item day = 0 := by
 rw [askE, h, show wi item 0 2 = true from wi_iff.2 (by omega), show wi day 0 60 = true from wi_iff.2 (by omega)]; rfl
theorem left_ok {d : Dp} (h : depE d = 0) {item day : Int} (hi : 0 ≤ item ∧ item ≤ 2) (hd : 0 ≤ day ∧ day ≤ 60) : leftR d item day = [pv (lefD d item (day.toNat + 1)), .int .i64 0] := by
 rw [leftR, ask_zero h hi hd]; rfl
theorem need_ok {d : Dp} (h : depE d = 0) {item day : Int} (hi : 0 ≤ item ∧ item ≤ 2) (hd : 0 ≤ day ∧ day ≤ 60) : needR d item day = [pv (needD d item day.toNat), .int .i64 0] := by
 rw [needR, ask_zero h hi hd]; rfl
end Go.Proofs.YtpmmgljndceplaaGreat

namespace Go.Proofs.YtpmmgljndceplaaGreat
open Go Go.RowKit

theorem left_okN {d : Dp} (h : depE d = 0) {item : Int} {dn : Nat} (hi : 0 ≤ item ∧ item ≤ 2) (hd : dn ≤ 60) : leftR d item (dn : Int) = [pv (lefD d item (dn + 1)), .int .i64 0] := by
 rw [left_ok h hi (by omega), Int.toNat_natCast]
theorem need_okN {d : Dp} (h : depE d = 0) {item : Int} {dn : Nat} (hi : 0 ≤ item ∧ item ≤ 2) (hd : dn ≤ 60) : needR d item (dn : Int) = [pv (needD d item dn), .int .i64 0] := by
 rw [need_ok h hi (by omega), Int.toNat_natCast]
end Go.Proofs.YtpmmgljndceplaaGreat

namespace Go.Proofs.YtpmmgljndceplaaGreat
open Go Go.RowKit

structure PtX where
 (first : Int) (xs : List Int) (A : Option Addr) (c : Nat)
abbrev PtX.enc (p : PtX) : List Value := [.int .i64 p.first, .slice p.A p.xs.length p.c]
structure PtX.ok (p : PtX) (w : World) : Prop where
 r : Rd w p.A 1 p.xs.length (encI p.xs)
 n : p.xs.length ≤ 9223372036854775807
def PtX.row (p : PtX) : Row := ⟨p.A, 1, p.xs.length, encI p.xs⟩
def GoodP (x : Fx) (p : PtX) : Prop := begB x.b = false ∧ ∃ m, playO x.f p.first p.xs = some m ∧ 0 ≤ m.winner
def ownN (d : Dp) (x : Fx) (p : PtX) : Nat → Int
 | 0 => d.each * ((scO (playO x.f p.first p.xs)).balls + 1)
 | 1 => d.tow * playersV x.f * ((scO (playO x.f p.first p.xs)).st.length : Int)
 | _ => d.fra * playersV x.f
theorem beg_none {b : Brd} (h : begB b = false) : b = noBrd := by
 obtain ⟨st, ⟨g1, g2⟩, ⟨p1, p2⟩⟩ := b
 unfold begB at h
 simp only [Bool.or_eq_false_iff, decide_eq_false_iff_not, Bool.not_eq_false'] at h
 obtain ⟨⟨h1, h2⟩, h3⟩ := h
 have hst : st = [] := List.length_eq_zero_iff.1 (by omega)
 unfold isZ at h2 h3
 obtain ⟨rfl, rfl⟩ : g1 = 0 ∧ g2 = 0 := by simpa using h2
 obtain ⟨rfl, rfl⟩ : p1 = 0 ∧ p2 = 0 := by simpa using h3
 rw [hst]
theorem chk_bdd {f : Fmt} {b : Brd} (h : checkE f b = 0) : f.Ok ∧ Bdd f := by
 have hf := chkF_ok (check_chk h)
 refine ⟨hf, (bdd_high hf fun hh => ?_).1⟩
 unfold checkE at h
 rw [check_chk h, cond_false] at h
 cases h1 : brdOk b <;> cases h2 : (arisesV f b).2 <;> rw [h1, h2, decide_eq_true hh] at h <;> cases h
theorem good_play {x : Fx} {p : PtX} (hc : checkE x.f x.b = 0) (hg : GoodP x p) : onceV x.b = 1 ∧ ((restC x.f x.b).1.1 ≤ (scO (playO x.f p.first p.xs)).balls ∧ (scO (playO x.f p.first p.xs)).balls ≤ (restC x.f x.b).1.2) ∧ (restC x.f x.b).2.1 ≤ ((scO (playO x.f p.first p.xs)).st.length : Int) ∧ ((scO (playO x.f p.first p.xs)).st.length : Int) ≤ (restC x.f x.b).2.2 := by
 obtain ⟨hf, hb⟩ := chk_bdd hc
 obtain ⟨h0, m, hm, hw⟩ := hg
 refine ⟨by unfold onceV; rw [h0]; rfl, ?_⟩
 rw [beg_none h0, hm]
 have hp : playTo x.f p.first p.xs p.xs.length = some m := by
  unfold playO at hm
  cases e : (!decide (preE x.f p.first p.xs.length = 0))
  ·
   rw [e] at hm; exact hm
  ·
   rw [e] at hm; cases hm
 exact rst_done (play_rst hf hb hp) hw
theorem own_in {d : Dp} {x : Fx} {p : PtX} (hG : DepG d) (hc : checkE x.f x.b = 0) (hg : GoodP x p) {k : Nat} (hk : k < 3) : (ndV d.each d.tow d.fra x k).1 ≤ ownN d x p k ∧ ownN d x p k ≤ (ndV d.each d.tow d.fra x k).2 := by
 obtain ⟨ho, h1, h2⟩ := good_play hc hg
 have hpl := players_rng x.f
 have k1 := hG.k1
 have k2 := hG.k2
 match k, hk with
 | 0, _ =>
  show ((restC x.f x.b).1.1 + onceV x.b) * d.each ≤ d.each * ((scO (playO x.f p.first p.xs)).balls + 1) ∧ d.each * ((scO (playO x.f p.first p.xs)).balls + 1) ≤ ((restC x.f x.b).1.2 + onceV x.b) * d.each
  rw [ho, Int.mul_comm d.each]
  exact ⟨Int.mul_le_mul_of_nonneg_right (by omega) k1.1, Int.mul_le_mul_of_nonneg_right (by omega) k1.1⟩
 | 1, _ =>
  show (restC x.f x.b).2.1 * (d.tow * playersV x.f) ≤ d.tow * playersV x.f * ((scO (playO x.f p.first p.xs)).st.length : Int) ∧ d.tow * playersV x.f * ((scO (playO x.f p.first p.xs)).st.length : Int) ≤ (restC x.f x.b).2.2 * (d.tow * playersV x.f)
  have hn : 0 ≤ d.tow * playersV x.f := Int.mul_nonneg k2.1 (by omega)
  rw [Int.mul_comm (d.tow * playersV x.f)]
  exact ⟨Int.mul_le_mul_of_nonneg_right h2.1 hn, Int.mul_le_mul_of_nonneg_right h2.2 hn⟩
 | 2, _ =>
  show onceV x.b * (d.fra * playersV x.f) ≤ d.fra * playersV x.f ∧ d.fra * playersV x.f ≤ onceV x.b * (d.fra * playersV x.f)
  rw [ho, Int.one_mul]
  exact ⟨Int.le_refl _, Int.le_refl _⟩
theorem ownN_rng {d : Dp} {x : Fx} {p : PtX} (hG : DepG d) (hc : checkE x.f x.b = 0) (hg : GoodP x p) {k : Nat} (hk : k < 3) : 0 ≤ ownN d x p k ∧ ownN d x p k ≤ 10000 := by
 have h1 := own_in hG hc hg hk
 have h2 := nd_rng (item := k) ⟨hG.k1, hG.k2, hG.k3⟩ hc
 omega
def useT (d : Dp) (l : List PtX) (day : Nat) : Nat → Nat → Int
 | 0, _ => 0
 | i + 1, k => match d.fx[i]?, l[i]? with
  | some x, some p => bif decide (x.day = (day : Int)) then useT d l day i k + ownN d x p k else useT d l day i k
  | _, _ => useT d l day i k
def befT (d : Dp) (l : List PtX) (day : Nat) : Nat → Nat → Int
 | 0, _ => 0
 | i + 1, k => match d.fx[i]?, l[i]? with
  | some x, some p => bif decide (x.day ≤ (day : Int)) then befT d l day i k + ownN d x p k else befT d l day i k
  | _, _ => befT d l day i k
def crU (d : Dp) (item : Int) (day : Nat) : Nat → Int
 | 0 => 0
 | k + 1 => match d.cr[k]? with
  | some c => bif decide (c.day ≤ (day : Int)) && decide (c.item = item) then crU d item day k + c.count else crU d item day k
  | none => crU d item day k
section
variable {d : Dp} {l : List PtX} {day i : Nat}
theorem use_succ {x : Fx} {p : PtX} (hx : d.fx[i]? = some x) (hp : l[i]? = some p) (k : Nat) : useT d l day (i + 1) k = bif decide (x.day = (day : Int)) then useT d l day i k + ownN d x p k else useT d l day i k := by
 rw [useT, hx, hp]
theorem bef_succ {x : Fx} {p : PtX} (hx : d.fx[i]? = some x) (hp : l[i]? = some p) (k : Nat) : befT d l day (i + 1) k = bif decide (x.day ≤ (day : Int)) then befT d l day i k + ownN d x p k else befT d l day i k := by
 rw [befT, hx, hp]
theorem crU_succ {item : Int} {c : Cx} (h : d.cr[i]? = some c) : crU d item day (i + 1) = bif decide (c.day ≤ (day : Int)) && decide (c.item = item) then crU d item day i + c.count else crU d item day i := by
 rw [crU, h]
def Played (d : Dp) (l : List PtX) (j : Nat) : Prop := ∀ i x p, i < j → d.fx[i]? = some x → l[i]? = some p → GoodP x p
theorem played_zero (d : Dp) (l : List PtX) : Played d l 0 := fun i x p h => by omega
theorem played_succ {j : Nat} {x : Fx} {p : PtX} (h : Played d l j) (hx : d.fx[j]? = some x) (hp : l[j]? = some p) (hg : GoodP x p) : Played d l (j + 1) := fun i y q hi hy hq => by
 by_cases e : i = j
 ·
  subst e
  rw [hx] at hy; rw [hp] at hq
  rw [← Option.some.inj hy, ← Option.some.inj hq]; exact hg
 ·
  exact h i y q (by omega) hy hq
theorem use_in (hG : DepG d) (hl : l.length = d.fx.length) {k : Nat} (hk : k < 3) (day : Nat) : ∀ j, j ≤ d.fx.length → Played d l j → (accN d k j day).1 ≤ useT d l day j k ∧ useT d l day j k ≤ (accN d k j day).2
 | 0, _, _ => ⟨Int.le_refl _, Int.le_refl _⟩
 | j + 1, hj, hp => by
  have ih := use_in hG hl hk day j (by omega) fun i x p h => hp i x p (by omega)
  obtain ⟨x, hx⟩ : ∃ x, d.fx[j]? = some x := ⟨_, List.getElem?_eq_getElem (by omega)⟩
  obtain ⟨p, hq⟩ : ∃ p, l[j]? = some p := ⟨_, List.getElem?_eq_getElem (by omega)⟩
  have ho := own_in hG (hG.fx x (List.mem_of_getElem? hx)).2 (hp j x p (by omega) hx hq) hk
  rw [use_succ hx hq, accN, hx]
  dsimp only
  cases decide (x.day = (day : Int))
  ·
   exact ih
  ·
   simp only [cond_true]; omega
theorem use_rng (hG : DepG d) (hl : l.length = d.fx.length) {k : Nat} (hk : k < 3) (day : Nat) {j : Nat} (hj : j ≤ d.fx.length) (hp : Played d l j) : 0 ≤ useT d l day j k ∧ useT d l day j k ≤ 10000 * j := by
 have h1 := use_in hG hl hk day j hj hp
 have h2 := acc_rng hG k day j
 omega
theorem bef_rng (hG : DepG d) (hl : l.length = d.fx.length) {k : Nat} (hk : k < 3) (day : Nat) : ∀ j, j ≤ d.fx.length → Played d l j → 0 ≤ befT d l day j k ∧ befT d l day j k ≤ 10000 * j
 | 0, _, _ => ⟨Int.le_refl _, Int.le_refl _⟩
 | j + 1, hj, hp => by
  have ih := bef_rng hG hl hk day j (by omega) fun i x p h => hp i x p (by omega)
  obtain ⟨x, hx⟩ : ∃ x, d.fx[j]? = some x := ⟨_, List.getElem?_eq_getElem (by omega)⟩
  obtain ⟨p, hq⟩ : ∃ p, l[j]? = some p := ⟨_, List.getElem?_eq_getElem (by omega)⟩
  have ho := ownN_rng hG (hG.fx x (List.mem_of_getElem? hx)).2 (hp j x p (by omega) hx hq) hk
  rw [bef_succ hx hq]
  cases decide (x.day ≤ (day : Int))
  ·
   simp only [cond_false]; omega
  ·
   simp only [cond_true]; omega
theorem bef_day (day k : Nat) : ∀ j, befT d l (day + 1) j k = befT d l day j k + useT d l (day + 1) j k
 | 0 => rfl
 | j + 1 => by
  rw [befT, befT, useT, bef_day day k j]
  cases d.fx[j]? with
  | none => rfl
  | some x =>
   cases l[j]? with
   | none => rfl
   | some p =>
    dsimp only
    by_cases h1 : x.day ≤ (day : Int)
    ·
     rw [decide_eq_true h1, decide_eq_true (show x.day ≤ ((day + 1 : Nat) : Int) by omega), decide_eq_false (show ¬ x.day = ((day + 1 : Nat) : Int) by omega)]
     simp only [cond_true, cond_false]; omega
    ·
     rw [decide_eq_false h1]
     by_cases h2 : x.day = ((day + 1 : Nat) : Int)
     ·
      rw [decide_eq_true h2, decide_eq_true (show x.day ≤ ((day + 1 : Nat) : Int) by omega)]
      simp only [cond_true, cond_false]; omega
     ·
      rw [decide_eq_false h2, decide_eq_false (show ¬ x.day ≤ ((day + 1 : Nat) : Int) by omega)]
      rfl
theorem bef_zero (h : ∀ x ∈ d.fx, 0 ≤ x.day) (k : Nat) : ∀ j, befT d l 0 j k = useT d l 0 j k
 | 0 => rfl
 | j + 1 => by
  rw [befT, useT, bef_zero h k j]
  cases e : d.fx[j]? with
  | none => rfl
  | some x =>
   have h0 := h x (List.mem_of_getElem? e)
   cases l[j]? with
   | none => rfl
   | some p =>
    dsimp only
    rw [show (decide (x.day ≤ ((0 : Nat) : Int))) = decide (x.day = ((0 : Nat) : Int)) from decide_eq_decide.2 (by omega)]
theorem crU_day (item : Int) (day : Nat) : ∀ j, crU d item (day + 1) j = crU d item day j + crT d item (day + 1) j
 | 0 => rfl
 | j + 1 => by
  rw [crU, crU, crT, crU_day item day j]
  cases d.cr[j]? with
  | none => rfl
  | some c =>
   dsimp only
   cases decide (c.item = item)
   ·
    simp only [Bool.and_false, cond_false]
   ·
    simp only [Bool.and_true]
    by_cases h1 : c.day ≤ (day : Int)
    ·
     rw [decide_eq_true h1, decide_eq_true (show c.day ≤ ((day + 1 : Nat) : Int) by omega), decide_eq_false (show ¬ c.day = ((day + 1 : Nat) : Int) by omega)]
     simp only [cond_true, cond_false]; omega
    ·
     rw [decide_eq_false h1]
     by_cases h2 : c.day = ((day + 1 : Nat) : Int)
     ·
      rw [decide_eq_true h2, decide_eq_true (show c.day ≤ ((day + 1 : Nat) : Int) by omega)]
      simp only [cond_true, cond_false]; omega
     ·
      rw [decide_eq_false h2, decide_eq_false (show ¬ c.day ≤ ((day + 1 : Nat) : Int) by omega)]
      rfl
theorem crU_zero (h : ∀ c ∈ d.cr, 0 ≤ c.day) (item : Int) : ∀ j, crU d item 0 j = crT d item 0 j
 | 0 => rfl
 | j + 1 => by
  rw [crU, crT, crU_zero h item j]
  cases e : d.cr[j]? with
  | none => rfl
  | some c =>
   have h0 := h c (List.mem_of_getElem? e)
   dsimp only
   rw [show (decide (c.day ≤ ((0 : Nat) : Int))) = decide (c.day = ((0 : Nat) : Int)) from decide_eq_decide.2 (by omega)]
theorem crU_rng (hG : DepG d) (item : Int) (day : Nat) : ∀ j : Nat, 0 ≤ crU d item day j ∧ crU d item day j ≤ 100000 * j
 | 0 => ⟨Int.le_refl _, Int.le_refl _⟩
 | j + 1 => by
  have ih := crU_rng hG item day j
  rw [crU]
  cases e : d.cr[j]? with
  | none => dsimp only; omega
  | some c =>
   have h0 := (hG.cr c (List.mem_of_getElem? e)).2.2
   dsimp only
   cases decide (c.day ≤ (day : Int)) && decide (c.item = item)
   ·
    simp only [cond_false]; omega
   ·
    simp only [cond_true]; omega
theorem need_in (hG : DepG d) (hl : l.length = d.fx.length) (hp : Played d l d.fx.length) {k : Nat} (hk : k < 3) (day : Nat) : (needD d k day).1 ≤ useT d l day d.fx.length k ∧ useT d l day d.fx.length k ≤ (needD d k day).2 :=
 use_in hG hl hk day _ (Nat.le_refl _) hp
theorem left_in (hG : DepG d) (hl : l.length = d.fx.length) (hp : Played d l d.fx.length) {k : Nat} (hk : k < 3) : ∀ day : Nat, (lefD d k (day + 1)).1 ≤ d.st.getD k 0 - befT d l day d.fx.length k + crU d k day d.cr.length ∧ d.st.getD k 0 - befT d l day d.fx.length k + crU d k day d.cr.length ≤ (lefD d k (day + 1)).2
 | 0 => by
  have h := need_in hG hl hp hk 0
  rw [bef_zero (fun x hx => (hG.fx x hx).1.1), crU_zero (fun c hc => (hG.cr c hc).1.1)]
  show d.st.getD k 0 + crT d k 0 d.cr.length - (needD d k 0).2 ≤ _ ∧ _ ≤ d.st.getD k 0 + crT d k 0 d.cr.length - (needD d k 0).1
  omega
 | day + 1 => by
  have h := need_in hG hl hp hk (day + 1)
  have ih := left_in hG hl hp hk day
  rw [bef_day, crU_day]
  show (lefD d k (day + 1)).1 + crT d k (day + 1) d.cr.length - (needD d k (day + 1)).2 ≤ _ ∧ _ ≤ (lefD d k (day + 1)).2 + crT d k (day + 1) d.cr.length - (needD d k (day + 1)).1
  omega
end
def e3 (F : Nat → Int) : List (List Value) := [[.int .i64 (F 0)], [.int .i64 (F 1)], [.int .i64 (F 2)]]
def mx3 (a b : Nat → Int) (k : Nat) : Nat → Int := fun i => if i < k then b i else a i
theorem e3_at {F : Nat → Int} {k : Nat} (h : k < 3) : (e3 F)[k]? = some [.int .i64 (F k)] := by
 match k, h with
 | 0, _ => rfl
 | 1, _ => rfl
 | 2, _ => rfl
theorem mx3_at (a b : Nat → Int) (k : Nat) : mx3 a b k k = a k := if_neg (Nat.lt_irrefl k)
theorem mx3_zero (a b : Nat → Int) : mx3 a b 0 = a := funext fun i => if_neg (Nat.not_lt_zero i)
theorem mx3_end (a b : Nat → Int) : e3 (mx3 a b 3) = e3 b := rfl
theorem mx3_hit {a b : Nat → Int} {k : Nat} (hk : k < 3) {v : Int} (h : b k = v) : (e3 (mx3 a b k)).set k [.int .i64 v] = e3 (mx3 a b (k + 1)) := by
 subst h
 match k, hk with
 | 0, _ => rfl
 | 1, _ => rfl
 | 2, _ => rfl
theorem mx3_miss {a b : Nat → Int} {k : Nat} (h : b k = a k) : mx3 a b k = mx3 a b (k + 1) := funext fun i => by
 unfold mx3
 by_cases e : i = k
 ·
  subst e
  rw [if_neg (Nat.lt_irrefl _), if_pos (Nat.lt_succ_self _), h]
 ·
  by_cases h1 : i < k
  ·
   rw [if_pos h1, if_pos (by omega)]
  ·
   rw [if_neg h1, if_neg (by omega)]
end Go.Proofs.YtpmmgljndceplaaGreat

namespace Go.Proofs.YtpmmgljndceplaaGreat
open Go Go.RowKit

abbrev playSp : List Sp := [.int .i64, .sl [.int .i64]]
theorem play_cells {w : World} {cs : List Value} (h : Mts w playSp cs) : ∃ p : PtX, cs = p.enc ∧ p.ok w := by
 obtain ⟨x, cs, rfl, _, h⟩ := Mts.int_inv h
 obtain ⟨A, n, c, xs, cs, rfl, hr, hn, hx, h⟩ := h.sl_invc
 rw [h.nil_inv]
 obtain ⟨ys, rfl⟩ := map_of (f := fun x : Int => [.int .i64 x]) (xs := xs) fun x hxm => by
  obtain ⟨a, cs, rfl, _, h⟩ := (hx x hxm).int_inv
  rw [h.nil_inv]
  exact ⟨a, rfl⟩
 have hl : ys.length = n := by have := hr.len; simpa using this
 subst hl
 exact ⟨⟨x, ys, A, c⟩, rfl, hr, by show ys.length ≤ _; omega⟩
theorem plays_open {w : World} {v : Value} (h : Mts w [.sl playSp] [v]) : ∃ (l : List PtX) (A : Option Addr) (c : Nat), v = .slice A l.length c ∧ Rd w A 2 l.length (l.map PtX.enc) ∧ (∀ p ∈ l, p.ok w) ∧ l.length ≤ 9223372036854775807 := by
 obtain ⟨A, n, c, xs, cs, e, hr, hn, hx, _⟩ := h.sl_invc
 obtain ⟨ys, rfl, hy⟩ := map_ofP (f := PtX.enc) (p := fun p => p.ok w) (xs := xs) fun x hxm => play_cells (hx x hxm)
 have hl : ys.length = n := by have := hr.len; simpa using this
 subst hl
 exact ⟨ys, A, c, by injection e, hr, hy, by omega⟩
end Go.Proofs.YtpmmgljndceplaaGreat
