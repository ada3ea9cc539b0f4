/- The texts of the walk, part 6. -/
import Derived.Test.YthkliiifllhacaaGreatJ5
namespace Go.Proofs.YthkliiifllhacaaGreat
open Go Go.RowKit

section
variable {f : Fmt} {cf : Int} {xs : List Nt}
end
end Go.Proofs.YthkliiifllhacaaGreat

namespace Go.Proofs.YthkliiifllhacaaGreat
open Go Go.RowKit

structure BtOk (f : Fmt) (cf : Int) (xs : List Nt) (q : BDR) : Prop where
 no : posE f cf xs ≠ 0 → q.zs = []
 yes : posE f cf xs = 0 → q.zs.map (·.b) = boardsC (keyC (crowdC f cf xs))
 sm : ∀ x ∈ q.zs, BrdSm x.b
 len : q.zs.length ≤ 4194304
theorem St.nilOwn {w0 w : World} {L : List Ent} (h : St w0 w L) (T : TypeId) (size : Nat) : St w0 w (.own none 0 T size 0 [] :: L) := by
 refine St.add (M := [_]) h (Blw.refl _ _) (fun e he => ?_) (fun e he b hb' => ?_) (List.pairwise_singleton _ _)
 ·
  simp only [List.mem_singleton] at he; subst he; exact ⟨World.ownsRow_nil w 0 T size, Rd.nil w none size⟩
 ·
  simp only [List.mem_singleton] at he; subst he; obtain ⟨ad, had, _⟩ := hb'; cases had
theorem C_card_BoardsT (f : Fmt) (cf : Int) (xs : List Nt) (A : Option Addr) (n c : Nat) (w : World) (h : Rd w A 4 n (encN xs)) (hn : n ≤ 9223372036854775807) (hsm : chkC f cf xs = 0 → mostS xs ≤ 400) (hbig : (crowdC f cf xs).length ≤ 4194304) :
  CR Tryz.prog 24 [.agg (cardC f cf A n c).toArray] w (BtOk f cf xs) (fun q => .tuple #[.slice q.A q.zs.length q.c, .int .i64 (posE f cf xs)]) (fun q => [.own q.A q.c 78 5 q.zs.length (encX q.zs), manyE true (q.zs.map rowX)]) := by
 refine ⟨Calls.mono (C_card_Boards f cf xs A n c w h hn hsm hbig).out fun e w' ⟨o, ho, he, hs⟩ => ?_⟩
 cases o with
 | none => exact ⟨⟨[], none, 0⟩, ⟨fun _ => rfl, fun h0 => absurd h0 ho, fun x hx => (by cases hx), Nat.zero_le _⟩, he, (St.many0 hs).nilOwn _ _⟩
 | some q => exact ⟨q, ⟨fun h0 => absurd ho.1 h0, fun _ => ho.2.1, ho.2.2.1, ho.2.2.2⟩, he, hs⟩
end Go.Proofs.YthkliiifllhacaaGreat

namespace Go.Proofs.YthkliiifllhacaaGreat
open Go Go.RowKit

set_option maxRecDepth 100000 in
set_option maxHeartbeats 4000000 in
theorem C_top_seeded (w : World) : C0 Tryz.prog 8 [] w (.bool true) := by
 have hlg := lg_ok exL_ok
 refine ⟨en Tryz.func8 Tryz.ntmps8 (St.init w) (h := fun F => ?_)⟩
 refine sr ?_
 refine ww ?_
 refine nr ?_
 refine cl (hc := fun w hS => C_law4_Example w) (h := fun x0 _ => ?_)
 refine cl (hc := fun w hS => C_rank_List exL ⟨x0.A1, x0.A2, x0.A3, 6, 1, 1⟩ 40 hlg.1 hlg.2 (by decide) (by decide) (by decide) w ⟨hS.get rdz_, hS.get rdz_, hS.get rdz_, (show (6 : Nat) ≤ 6 ∧ (6 : Nat) ≤ 9223372036854775807 by decide), (show (1 : Nat) ≤ 1 ∧ (1 : Nat) ≤ 9223372036854775807 by decide), (show (1 : Nat) ≤ 1 ∧ (1 : Nat) ≤ 9223372036854775807 by decide)⟩) (h := fun x1 _ => ?_)
 rw [exL_list]
 iterate 5 refine ww ?_
 refine nr ?_
 refine cl (hc := fun w hS => C_law06_Example w) (h := fun x2 _ => ?_)
 iterate 3 refine ww ?_
 refine al (h := fun b0 => ?_)
 refine al (h := fun b1 => ?_)
 first | refine stA (h := ?_) | refine stEA (h := ?_)
 first | refine stA (h := ?_) | refine stEA (h := ?_)
 refine nr ?_
 refine ww ?_
 refine cl (hc := fun w hS => C_dr_Draw exPD ⟨x2.A1, x2.A2, 3, 2⟩ (by decide) w ⟨hS.get (by repeat (first | exact Rds.own | apply Rds.there)), hS.get (by repeat (first | exact Rds.own | apply Rds.there)), by decide, by decide, Nat.le_refl _⟩) (h := fun x3 _ => ?_)
 rw [ex_draw]
 iterate 5 refine ww ?_
 refine nr ?_
 refine cl (hc := fun w hS => C_deucelaw02_Example w) (h := fun x4 _ => ?_)
 iterate 2 refine ww ?_
 refine cl0 (hc := fun w hS => C_lines_Call exV exB (some ⟨x4, 0, none⟩) 3 3 w (hS.get rdz_) (by omega)) (h := ?_)
 rw [ex_call]
 iterate 5 refine ww ?_
 refine nr ?_
 refine cl (hc := fun w hS => C_law3_Example w) (h := fun x5 _ => ?_)
 refine cl0 (hc := fun w hS => C_card_First exF 0 exX (some ⟨x5, 0, none⟩) 5 5 w (hS.get rdz_) (by omega) (fun _ => by rw [ex_most]; decide)) (h := ?_)
 rw [ex_all, ex_chk]
 iterate 5 refine ww ?_
 refine nr ?_
 refine ww ?_
 refine wy ((Yd.tr (eql) (by exact decide_eq_true rfl))) ?_
 refine ww ?_
 refine uw ?_
 refine uz ?_
 refine wy ((Yd.tr (eql) (by exact decide_eq_true rfl))) ?_
 iterate 2 refine ww ?_
 refine uw ?_
 refine uz ?_
 refine wy ((Yd.tr (eql) (by exact decide_eq_true rfl))) ?_
 iterate 2 refine ww ?_
 refine uw ?_
 refine uz ?_
 refine wy ((Yd.tr (eql) (by exact decide_eq_true rfl))) ?_
 iterate 2 refine ww ?_
 iterate 2 refine uw ?_
 refine uz ?_
 refine wy ((Yd.tr (eql) (by exact decide_eq_true rfl))) ?_
 iterate 2 refine ww ?_
 refine uw ?_
 refine uz ?_
 refine wy (ix (A := x1.1) (m := 3) (hb := by decide)) ?_
 refine uz ?_
 refine wy (ldE (A := x1.1) (k := 1) (cs := [.int .i64 2]) (hk := rfl)) ?_
 refine uz ?_
 refine wy ((Yd.tr (eql) (by exact decide_eq_true rfl))) ?_
 iterate 2 refine ww ?_
 iterate 2 refine uw ?_
 refine uz ?_
 refine wy ((Yd.tr (eql) (by exact decide_eq_true rfl))) ?_
 iterate 2 refine ww ?_
 refine uw ?_
 refine uz ?_
 refine wy (ix (A := x3.1) (m := 4) (hb := by decide)) ?_
 refine uz ?_
 refine wy (ldE (A := x3.1) (k := 2) (cs := [.int .i64 30]) (hk := rfl)) ?_
 refine uz ?_
 refine wy ((Yd.tr (eql) (by exact decide_eq_true rfl))) ?_
 iterate 2 refine ww ?_
 refine uw ?_
 refine uz ?_
 refine wy ((Yd.tr (eql) (by exact decide_eq_true rfl))) ?_
 iterate 2 refine ww ?_
 refine uw ?_
 refine uz ?_
 refine wy ((Yd.tr (eql) (by exact decide_eq_true rfl))) ?_
 iterate 2 refine ww ?_
 refine nq ?_
 refine rtn ?_
 refine q_ret (hR := ?_)
 exact fun w hS => ⟨rfl, hS.sub slz_⟩
end Go.Proofs.YthkliiifllhacaaGreat

namespace Go.Proofs.YthkliiifllhacaaGreat
open Go Go.RowKit

theorem insB_len (l : List Brd) (b : Brd) : (insB l b).length ≤ l.length + 1 := by
 unfold insB
 by_cases h : b ∈ l
 ·
  rw [if_pos h]; omega
 ·
  rw [if_neg h, List.length_append, List.length_cons, List.length_take, List.length_drop]; omega
theorem boards_len (l : List Spot) : (boardsC l).length ≤ l.length := by
 have : ∀ (l : List Spot) (o : List Brd), (l.foldl (fun o s => insB o (brdOf s)) o).length ≤ o.length + l.length := fun l => by
  induction l with
  | nil => intro o; exact Nat.le_refl _
  | cons s l ih =>
   intro o
   have h1 := ih (insB o (brdOf s))
   have h2 := insB_len o (brdOf s)
   rw [List.foldl_cons, List.length_cons]
   omega
 have := this l []
 rw [List.length_nil, Nat.zero_add] at this
 exact this
theorem step_one (f : Fmt) (l : List En) {side : Int} (h : side ≠ -1) : (stepC f l side).length ≤ l.length := by
 have h1 : ∀ e : En, (goE f side e 0 ++ goE f side e 1).length ≤ 1 := fun e => by
  have a0 := go_len f side e 0
  have a1 := go_len f side e 1
  rw [List.length_append]
  by_cases e0 : side = 0
  ·
   have : goE f side e 1 = [] := by unfold goE; rw [if_neg (by omega)]
   rw [this]; simpa using a0
  ·
   have : goE f side e 0 = [] := by unfold goE; rw [if_neg (by omega)]
   rw [this]; simpa using a1
 have h2 : (stepI f l side).length ≤ l.length := by
  unfold stepI
  induction l with
  | nil => exact Nat.le_refl _
  | cons e l ih =>
   rw [List.flatMap_cons, List.length_append, List.length_cons]
   have := h1 e
   omega
 exact Nat.le_trans (norm_len _) h2
abbrev ntS (s : Int) : Nt := ⟨1, s, (0, 0)⟩
structure Cal (ps : List Int) (ys : List Nt) (M : Nat) : Prop where
 len : ys.length = ps.length
 at_ : ∀ (k : Nat) (p : Int), ps[k]? = some p → (p = 0 ∨ p = 1) ∧ (ys[k]? = some (ntS (-1)) ∨ ys[k]? = some (ntS p))
 cr : ∀ (f : Fmt) (first : Int), first = 0 ∨ first = 1 → (crowdC f first ys).length ≤ M
 bd : 1 ≤ M ∧ M ≤ 2 ^ ps.length
theorem cal_nil : Cal [] [] 1 := ⟨rfl, fun k p h => by simp at h, fun f first h => by
 show (begC first).length ≤ 1
 rcases h with rfl | rfl <;> decide, by decide⟩
theorem cal_snoc {ps : List Int} {ys : List Nt} {M : Nat} (h : Cal ps ys M) {p : Int} (hp : p = 0 ∨ p = 1) {s : Int} {M' : Nat} (hs : (s = -1 ∧ M' = M * 2) ∨ (s = p ∧ M' = M)) : Cal (ps ++ [p]) (ys ++ [ntS s]) M' := by
 have hb := h.bd
 refine ⟨by rw [List.length_append, List.length_append, h.len]; rfl, fun k q hq => ?_, fun f first hf => ?_, ?_⟩
 ·
  by_cases e : k < ps.length
  ·
   rw [List.getElem?_append_left e] at hq
   rw [List.getElem?_append_left (by rw [h.len]; exact e)]
   exact h.at_ k q hq
  ·
   have hk : k = ps.length := by have := (List.getElem?_eq_some_iff.1 hq).1; rw [List.length_append] at this; simp at this; omega
   subst hk
   rw [List.getElem?_append_right (Nat.le_refl _), Nat.sub_self] at hq
   have hq' : p = q := Option.some.inj hq
   subst hq'
   refine ⟨hp, ?_⟩
   rw [List.getElem?_append_right (by rw [h.len]; exact Nat.le_refl _), h.len, Nat.sub_self]
   rcases hs with ⟨rfl, -⟩ | ⟨rfl, -⟩
   ·
    exact .inl rfl
   ·
    exact .inr rfl
 ·
  have hc := h.cr f first hf
  have e : crowdC f first (ys ++ [ntS s]) = stepC f (crowdC f first ys) s := by unfold crowdC; rw [List.foldl_append]; rfl
  rw [e]
  rcases hs with ⟨rfl, rfl⟩ | ⟨rfl, rfl⟩
  ·
   have := step_len f (crowdC f first ys) (-1)
   omega
  ·
   have := step_one f (crowdC f first ys) (side := s) (by omega)
   omega
 ·
  rw [List.length_append, List.length_singleton, Nat.pow_succ]
  rcases hs with ⟨-, rfl⟩ | ⟨-, rfl⟩ <;> omega
theorem cal_mk {ps : List Int} {ys : List Nt} {M : Nat} (h : Cal ps ys M) : ∀ y ∈ ys, ∃ s : Int, y = ntS s ∧ -1 ≤ s ∧ s ≤ 1 := fun y hy => by
 obtain ⟨k, hk, rfl⟩ := List.getElem_of_mem hy
 have hk2 : k < ps.length := by rw [← h.len]; exact hk
 obtain ⟨hp, h1 | h1⟩ := h.at_ k ps[k] (List.getElem?_eq_getElem hk2) <;> rw [List.getElem?_eq_getElem hk] at h1
 ·
  exact ⟨-1, Option.some.inj h1, by omega, by omega⟩
 ·
  exact ⟨_, Option.some.inj h1, by omega, by omega⟩
theorem cal_rdy {ps : List Int} {ys : List Nt} {M : Nat} (h : Cal ps ys M) {f : Fmt} {first : Int} (hc : chkF f = 0) (hf : first = 0 ∨ first = 1) (hn : ps.length ≤ 6) : Rdy f first ys := by
 have hm := cal_mk h
 have hmk : ∀ y ∈ ys, mkV y = true := fun y hy => by
  obtain ⟨s, rfl, h1, h2⟩ := hm y hy
  show (wi s (-1) 1 && true) = true
  rw [Bool.and_true]
  exact wi_iff.2 ⟨h1, h2⟩
 have hmis : misS ys = 0 := by
  have : ∀ l : List Nt, (∀ y ∈ l, ∃ s : Int, y = ntS s ∧ -1 ≤ s ∧ s ≤ 1) → misS l = 0 := fun l => by
   induction l with
   | nil => intro _; rfl
   | cons y l ih =>
    intro hl
    obtain ⟨s, e, -⟩ := hl y List.mem_cons_self
    have h0 : misN y = 0 := by rw [e]; rfl
    have h1 := ih fun z hz => hl z (List.mem_cons_of_mem _ hz)
    unfold misS at h1 ⊢
    rw [List.map_cons, List.sum_cons, h0, h1]; rfl
  exact this ys hm
 have hx := (exp_mis hmk).2.1
 have hl := h.len
 have hch : chkC f first ys = 0 := chk_of hc (by omega) (by omega) hmk (by omega)
 exact rdy_of hch (by omega) (by omega)
theorem cal_fit {ps : List Int} {ys : List Nt} {M : Nat} (h : Cal ps ys M) (f : Fmt) (first : Int) : ∀ j, j ≤ ps.length → Fit f first ps ys j j
 | 0, _ => rfl
 | j + 1, hj => by
  have hp : ps[j]? = some ps[j] := List.getElem?_eq_getElem (by omega)
  rcases (h.at_ j _ hp).2 with h1 | h1
  ·
   exact ⟨_, j, h1, cal_fit h f first j (by omega), by unfold hitV; rw [if_pos rfl]; exact ⟨rfl, hj, .inl rfl⟩⟩
  ·
   exact ⟨_, j, h1, cal_fit h f first j (by omega), by unfold hitV; rw [if_pos rfl]; exact ⟨rfl, hj, .inr hp⟩⟩
theorem cal_law {ps : List Int} {ys : List Nt} {M : Nat} (h : Cal ps ys M) {f : Fmt} {first : Int} (hR : Rdy f first ys) (hf : first = 0 ∨ first = 1) {m : MS} (hm : playO f first ps = some m) :
  badC f first ys = -1 ∧ posE f first ys = 0 ∧ (boardsC (keyC (crowdC f first ys))).length ≤ M ∧ (⟨m.st, m.g, m.p⟩ : Brd) ∈ boardsC (keyC (crowdC f first ys)) := by
 have hp : playTo f first ps ps.length = some m := by
  unfold playO at hm
  cases e : (!decide (preE f first ps.length = 0))
  ·
   rw [e] at hm; exact hm
  ·
   rw [e] at hm; cases hm
 obtain ⟨hcan, hsp⟩ := play_can hR.ok hp
 have hft := cal_fit h f first ps.length (Nat.le_refl _)
 have hbeg : (⟨first, [], (0, 0), (0, 0)⟩ : Spot) ∈ keyC (begC first) := by
  rcases hf with rfl | rfl <;> decide
 obtain ⟨e, he, he1, -⟩ := true_match hcan hbeg (by rw [h.len]; exact hft)
 have hkey : spotOf m ∈ keyC (crowdC f first ys) := List.mem_map.2 ⟨e, he, by rw [he1, hsp]⟩
 have hbad : badC f first ys = -1 := hR.bad_key.2 ⟨_, hkey⟩
 refine ⟨hbad, by rw [hR.pos, if_pos hbad], ?_, ?_⟩
 ·
  have h1 := boards_len (keyC (crowdC f first ys))
  have h2 := h.cr f first hf
  unfold keyC at h1 ⊢
  rw [List.length_map] at h1
  omega
 ·
  refine ((boards_facts _).2 _).2 ⟨spotOf m, hkey, ?_⟩
  rfl
end Go.Proofs.YthkliiifllhacaaGreat

namespace Go.Proofs.YthkliiifllhacaaGreat
open Go Go.RowKit

end Go.Proofs.YthkliiifllhacaaGreat

namespace Go.Proofs.YthkliiifllhacaaGreat
open Go

theorem truTo_sub {v : View} {p : Int × Int} {j : Nat} (hp : p = ctr v j) (ht : tru v p = true) : ∀ {k : Nat}, j < k → p ∈ truTo v k
 | 0, h => by omega
 | k + 1, h => by
  rw [truTo]
  by_cases e : j = k
  ·
   subst e
   rw [← hp, ht]
   exact List.mem_append_right _ (by simp)
  ·
   have := truTo_sub hp ht (k := k) (by omega)
   cases tru v (ctr v k)
   ·
    exact this
   ·
    exact List.mem_append_left _ this
theorem trus_mem {v : View} (hv : v.Near) {x y : Int} (hx : 0 ≤ x ∧ x ≤ v.size) (hy : 0 ≤ y ∧ y ≤ v.size) (ht : tru v (x, y) = true) : (x, y) ∈ trus v := by
 have hm := m_int hv
 obtain ⟨i, rfl⟩ := Int.eq_ofNat_of_zero_le hx.1
 obtain ⟨j, rfl⟩ := Int.eq_ofNat_of_zero_le hy.1
 exact truTo_sub (ctr_eq (by omega)).symm ht (ctr_in (by omega) (by omega))
theorem isM_iff {v : View} {m : Mark} : isM v m = true ↔ (0 ≤ m.x ∧ m.x ≤ v.size) ∧ (0 ≤ m.y ∧ m.y ≤ v.size) ∧ (v.hxl ≤ m.hx ∧ m.hx ≤ v.hxh) ∧ (v.hyl ≤ m.hy ∧ m.hy ≤ v.hyh) := by
 simp only [isM, Bool.and_eq_true, wi_iffL]
 constructor
 ·
  rintro ⟨⟨⟨h1, h2⟩, h3⟩, h4⟩; exact ⟨h1, h2, h3, h4⟩
 ·
  rintro ⟨h1, h2, h3, h4⟩; exact ⟨⟨⟨h1, h2⟩, h3⟩, h4⟩
theorem isT_iff {v : View} {m : Mark} : isT v m = true ↔ isM v m = true ∧ tru v (m.x, m.y) = true := by simp only [isT, Bool.and_eq_true]; rfl
theorem isM_ok {v : View} {m : Mark} (hv : v.Near) (h : isM v m = true) : m.Ok := by
 obtain ⟨h1, h2, h3, h4⟩ := isM_iff.1 h
 obtain ⟨a1, a2, a3, a4, a5, a6, a7, a8, _, _⟩ := hv
 constructor <;> omega
theorem isT_ok {v : View} {m : Mark} (hv : v.Near) (h : isT v m = true) : m.Ok := isM_ok hv (isT_iff.1 h).1
theorem isT_mem {v : View} {m : Mark} (hv : v.Near) (h : isT v m = true) : (m.x, m.y) ∈ trus v := by
 obtain ⟨h1, h2⟩ := isT_iff.1 h
 obtain ⟨k1, k2, _⟩ := isM_iff.1 h1
 exact trus_mem hv k1 k2 h2
theorem call_cases {v : View} {b : Box} : (none0 v = true ∧ callV v b = 0) ∨ (none0 v = false ∧ callV v b = 1 ∧ ∀ p ∈ trus v, tch (smallM v p) b = true) ∨
  (none0 v = false ∧ callV v b = 2 ∧ (∃ p ∈ trus v, tch (smallM v p) b = false) ∧ ∀ p ∈ trus v, tch (largeM v p) b = false) ∨
  (none0 v = false ∧ callV v b = 3 ∧ (∃ p ∈ trus v, tch (smallM v p) b = false) ∧ ∃ p ∈ trus v, tch (largeM v p) b = true) := by
 unfold callV
 cases h0 : none0 v
 ·
  right
  cases h1 : (trus v).any (fun p => !tch (smallM v p) b)
  ·
   left
   refine ⟨rfl, rfl, fun p hp => ?_⟩
   have := List.any_eq_false.1 h1 p hp
   simpa using this
  ·
   right
   obtain ⟨p, hp, h2⟩ := List.any_eq_true.1 h1
   have h2 : tch (smallM v p) b = false := by simpa using h2
   cases h3 : (trus v).any (fun p => tch (largeM v p) b)
   ·
    left
    refine ⟨rfl, rfl, ⟨p, hp, h2⟩, fun q hq => ?_⟩
    have := List.any_eq_false.1 h3 q hq
    simpa using this
   ·
    right
    obtain ⟨q, hq, h4⟩ := List.any_eq_true.1 h3
    exact ⟨rfl, rfl, ⟨p, hp, h2⟩, q, hq, h4⟩
 ·
  exact .inl ⟨rfl, rfl⟩
theorem none_mem {v : View} (h : none0 v = true) {p : Int × Int} : p ∉ trus v := by
 have : trus v = [] := by simpa [none0] using h
 rw [this]; simp
end Go.Proofs.YthkliiifllhacaaGreat

namespace Go.Proofs.YthkliiifllhacaaGreat
open Go Go.RowKit

structure CdZ where
 (k : Nat) (ps : List Int) (pA : Option Addr) (pc : Nat) (ys : List Nt) (yA : Option Addr) (yc M : Nat)
theorem ry_at {xs : List Ry} {k : Nat} {x : Ry} (h : xs[k]? = some x) : (xs.map Ry.enc)[k]? = some x.enc := map_atR h
theorem encI_sn (xs : List Int) (x : Int) : encI xs ++ [[.int .i64 x]] = encI (xs ++ [x]) := by unfold encI; rw [List.map_append]; rfl
theorem ntS_sn (ys : List Nt) (s : Int) : encN ys ++ [[.int .i64 1, .int .i64 s, .int .i64 0, .int .i64 0]] = encN (ys ++ [ntS s]) := by unfold encN; rw [List.map_append]; rfl
theorem call_true {v : View} {b : Box} {m : Mark} (hv : vbad v = false) (hb : bbad b = false) (hm : isT v m = true) : callR v b = [.int .i64 (callV v b), .int .i64 0] := by
 have hn := vbad_near hv
 have hc : chkVB v b = 0 := by unfold chkVB chkV chkB; rw [hv, hb]; rfl
 have h0 : callV v b ≠ 0 := by
  rcases call_cases (v := v) (b := b) with h | h | h | h
  ·
   exact absurd (isT_mem hn hm) (none_mem h.1)
  all_goals omega
 unfold callR
 rw [hc, decide_eq_false h0]; rfl
structure CdI (l : List Ry) (z : CdZ) : Prop where
 k : z.k ≤ l.length
 p : z.ps.length = z.k
 c : Cal z.ps z.ys z.M
set_option maxRecDepth 100000 in
set_option maxHeartbeats 4000000 in
theorem K_TopCalled (f : Fmt) (first : Int) (l : List Ry) (A : Option Addr) (c : Nat) (w : World) (h : Rd w A 16 l.length (l.map Ry.enc)) (hp0 : ∀ x ∈ l, x.ok w) (hln : l.length ≤ 9223372036854775807) :
  C0 Tryz.prog 5 [f.val, .int .i64 first, .slice A l.length c] w (.bool true) := by
 have hrows : ∀ r ∈ l.map (fun x : Ry => (⟨x.A, 4, x.v.strips.length, x.v.enc⟩ : Row)), Rd w r.A r.size r.n r.es := fun r hr => by
  obtain ⟨x, hx, rfl⟩ := List.mem_map.1 hr
  exact (hp0 x hx).r
 refine ⟨en Tryz.func5 Tryz.ntmps5 ((St.init w).share (e := .ro A 16 l.length (l.map Ry.enc)) h rfl rfl rfl) (h := fun F => ?_)⟩
 refine sr ?_
 refine bxA (h := fun b0 => ?_)
 refine ww ?_
 refine nq ?_
 iterate 2 refine sq ?_
 refine WC.manyOld hrows ?_
 refine rg ?_
 refine ww ?_
 refine cl0 (hc := fun w hS => C_ref1_Check f w) (h := ?_)
 iterate 2 refine ww ?_
 apply brOr 3 27 30 (by exact rfl)
 ·
  intro hb0
  iterate 2 refine uw ?_
  refine ww ?_
  exact mg (by repeat (first | exact trivial | refine ⟨rfl, ?_⟩ | refine ⟨by rw [hb0]; rfl, ?_⟩)) slz_
 ·
  intro hb0
  repeat (first | refine uz ?_ | refine kz ?_ | refine wz ?_)
  exact mg (by repeat (first | exact trivial | refine ⟨rfl, ?_⟩ | refine ⟨by rw [hb0]; rfl, ?_⟩)) slz_
 refine ww ?_
 apply brOr 3 31 34 (by exact rfl)
 ·
  intro hb1
  iterate 2 refine uw ?_
  refine ww ?_
  exact mg (by repeat (first | exact trivial | refine ⟨rfl, ?_⟩ | refine ⟨by rw [hb1]; rfl, ?_⟩)) slz_
 ·
  intro hb1
  repeat (first | refine uz ?_ | refine kz ?_ | refine wz ?_)
  exact mg (by repeat (first | exact trivial | refine ⟨rfl, ?_⟩ | refine ⟨by rw [hb1]; rfl, ?_⟩)) slz_
 refine ww ?_
 apply brOr 4 35 39 (by exact rfl)
 ·
  intro hb2
  iterate 3 refine uw ?_
  refine ww ?_
  exact mg (by repeat (first | exact trivial | refine ⟨rfl, ?_⟩ | refine ⟨by rw [hb2]; rfl, ?_⟩)) slz_
 ·
  intro hb2
  repeat (first | refine uz ?_ | refine kz ?_ | refine wz ?_)
  exact mg (by repeat (first | exact trivial | refine ⟨rfl, ?_⟩ | refine ⟨by rw [hb2]; rfl, ?_⟩)) slz_
 refine nq ?_
 refine czz (fun h3 => ?_) fun h3 => ?_
 ·
  refine sr ?_
  refine cl0 (hc := fun w hS => C_top_seeded w) (h := ?_)
  refine ww ?_
  refine nq ?_
  refine rtn ?_
  refine q_then_ret ?_
  refine q_ret (hR := ?_)
  exact fun w hS => ⟨rfl, hS.sub slz_⟩
 ·
  have h00 := h3
  simp only [Bool.or_eq_false_iff, decide_eq_false_iff_not, Bool.not_eq_false', decide_eq_true_eq] at h00
  obtain ⟨⟨⟨hck, hf1⟩, hf2⟩, hl6⟩ := h00
  have hff : first = 0 ∨ first = 1 := by omega
  refine skp ?_
  refine q_seq ?_
  refine sr ?_
  refine ww ?_
  refine nr ?_
  iterate 3 refine ww ?_
  refine al (h := fun bc => ?_)
  first | refine stA (h := ?_) | refine stEA (h := ?_)
  refine nq ?_
  refine sq ?_
  refine WC.nilOwn 3 1 (h := ?_)
  refine WC.nilOwn 75 4 (h := ?_)
  refine rg ?_
  refine ww ?_
  refine nq ?_
  refine sq ?_
  refine sr ?_
  refine ww ?_
  refine nq ?_
  refine bk ?_
  refine lp (X := CdZ) (I := fun z => CdI l z) (le := fun z => [(1, .int .i64 first), (2, .slice A l.length c), (3, .pointer (some ⟨b0, 0, none⟩)), (7, .slice z.pA z.ps.length z.pc), (8, .pointer (some ⟨bc, 0, none⟩)), (9, .int .i64 z.M), (10, .int .i64 z.k)]) (Le := fun z => [.own z.pA z.pc 3 1 z.ps.length (encI z.ps), .own z.yA z.yc 75 4 z.ys.length (encN z.ys), .blk bc 54 (cardC f first z.yA z.ys.length z.yc), .blk b0 49 f.cells, .ro A 16 l.length (l.map Ry.enc), manyE false (l.map fun x : Ry => ⟨x.A, 4, x.v.strips.length, x.v.enc⟩)]) (μ := fun z => l.length - z.k) ⟨0, [], none, 0, [], none, 0, 1⟩ ⟨Nat.zero_le _, rfl, cal_nil⟩ sbz_ slz_ (fun z hz => ?_)
  refine sq ?_
  refine sr ?_
  iterate 4 refine ww ?_
  refine nq ?_
  refine czz (fun h4 => ?_) fun h4 => ?_
  ·
   have hkn : z.k < l.length := by have := of_decide_eq_true h4; omega
   obtain ⟨x, hx⟩ : ∃ x, l[z.k]? = some x := ⟨_, List.getElem?_eq_getElem hkn⟩
   have hxn := (hp0 x (List.mem_of_getElem? hx)).n
   have hzp := hz.p
   have hzl := hz.c.len
   have hzM := hz.c.bd
   have hM64 : z.M ≤ 64 := Nat.le_trans hzM.2 (by rw [hzp]; exact Nat.le_trans (Nat.pow_le_pow_right (by omega) (show z.k ≤ 6 by omega)) (by decide))
   refine skp ?_
   refine q_seq ?_
   refine sq ?_
   refine bk ?_
   refine sr ?_
   iterate 2 refine ww ?_
   refine wy (ix (A := A) (m := l.length)) ?_
   refine wy (ldEW (A := A) (k := z.k) (cs := x.enc) (hk := ry_at hx)) ?_
   refine al (h := fun bx => ?_)
   first | refine stA (h := ?_) | refine stEA (h := ?_)
   refine nq ?_
   iterate 2 refine sq ?_
   refine WC.getRowF (r := ⟨x.A, 4, x.v.strips.length, x.v.enc⟩) (List.mem_map.2 ⟨x, List.mem_of_getElem? hx, rfl⟩) atz_ ?_
   refine rg ?_
   iterate 4 refine ww ?_
   apply brOr 4 57 61 (by exact rfl)
   ·
    intro hb5
    iterate 3 refine uw ?_
    refine ww ?_
    exact mg (by repeat (first | exact trivial | refine ⟨rfl, ?_⟩ | refine ⟨by rw [hb5]; rfl, ?_⟩)) slz_
   ·
    intro hb5
    repeat (first | refine uz ?_ | refine kz ?_ | refine wz ?_)
    exact mg (by repeat (first | exact trivial | refine ⟨rfl, ?_⟩ | refine ⟨by rw [hb5]; rfl, ?_⟩)) slz_
   refine ww ?_
   apply brOr 4 62 66 (by exact rfl)
   ·
    intro hb6
    iterate 2 refine uw ?_
    refine uz ?_
    refine cl0 (hc := fun w hS => C_deucelaw02_Far x.v x.A x.v.strips.length x.c w (hS.get rdz_) hxn) (h := ?_)
    refine ww ?_
    exact mg (by repeat (first | exact trivial | refine ⟨rfl, ?_⟩ | refine ⟨by rw [hb6]; rfl, ?_⟩)) slz_
   ·
    intro hb6
    repeat (first | refine uz ?_ | refine kz ?_ | refine wz ?_)
    exact mg (by repeat (first | exact trivial | refine ⟨rfl, ?_⟩ | refine ⟨by rw [hb6]; rfl, ?_⟩)) slz_
   refine ww ?_
   apply brOr 5 67 72 (by exact rfl)
   ·
    intro hb7
    iterate 2 refine uw ?_
    refine uz ?_
    refine cl0 (hc := fun w hS => C_ref_Check x.v x.A x.v.strips.length x.c w (hS.get rdz_) hxn) (h := ?_)
    refine uw ?_
    refine ww ?_
    exact mg (by repeat (first | exact trivial | refine ⟨rfl, ?_⟩ | refine ⟨by rw [hb7]; rfl, ?_⟩)) slz_
   ·
    intro hb7
    repeat (first | refine uz ?_ | refine kz ?_ | refine wz ?_)
    exact mg (by repeat (first | exact trivial | refine ⟨rfl, ?_⟩ | refine ⟨by rw [hb7]; rfl, ?_⟩)) slz_
   refine ww ?_
   apply brOr 5 73 78 (by exact rfl)
   ·
    intro hb8
    iterate 2 refine uw ?_
    refine uz ?_
    refine cl0 (hc := fun w hS => C_ref_IsBox x.b w) (h := ?_)
    refine uw ?_
    refine ww ?_
    exact mg (by repeat (first | exact trivial | refine ⟨rfl, ?_⟩ | refine ⟨by rw [hb8]; rfl, ?_⟩)) slz_
   ·
    intro hb8
    repeat (first | refine uz ?_ | refine kz ?_ | refine wz ?_)
    exact mg (by repeat (first | exact trivial | refine ⟨rfl, ?_⟩ | refine ⟨by rw [hb8]; rfl, ?_⟩)) slz_
   refine ww ?_
   apply brOr 7 79 86 (by exact rfl)
   ·
    intro hb9
    have hvv : vbad x.v = false := by
     have e := hb9
     simp only [Bool.or_eq_false_iff] at e
     exact chkV_ok e.1.2
    have hvn := vbad_near hvv
    iterate 4 refine uw ?_
    refine uz ?_
    refine cl0 (hc := fun w hS => C_ref_IsTruth x.v x.m x.A x.v.strips.length x.c w (hS.get rdz_) hvn) (h := ?_)
    refine uw ?_
    refine ww ?_
    exact mg (by repeat (first | exact trivial | refine ⟨rfl, ?_⟩ | refine ⟨by rw [hb9]; rfl, ?_⟩)) slz_
   ·
    intro hb9
    repeat (first | refine uz ?_ | refine kz ?_ | refine wz ?_)
    exact mg (by repeat (first | exact trivial | refine ⟨rfl, ?_⟩ | refine ⟨by rw [hb9]; rfl, ?_⟩)) slz_
   refine nq ?_
   refine czz (fun h10 => ?_) fun h10 => ?_
   ·
    refine sr ?_
    refine cl0 (hc := fun w hS => C_top_seeded w) (h := ?_)
    refine ww ?_
    refine nq ?_
    refine rtn ?_
    refine q_then_ret ?_
    refine q_blk_ret ?_
    iterate 2 refine q_then_ret ?_
    refine q_blk_ret ?_
    refine q_then_ret ?_
    refine q_ret (hR := ?_)
    exact fun w hS => ⟨rfl, hS.sub slz_⟩
   ·
    have h00 := h10
    simp only [Bool.or_eq_false_iff, decide_eq_false_iff_not, Bool.not_eq_false'] at h00
    obtain ⟨⟨⟨⟨⟨hs1, hs2⟩, hfr⟩, hcv⟩, hbx⟩, hit⟩ := h00
    have hbb : bbad x.b = false := by simpa using hbx
    have hvv : vbad x.v = false := chkV_ok (by rw [hcv]; rfl)
    have hvn := vbad_near hvv
    have hsd : x.side = 0 ∨ x.side = 1 := by omega
    refine skp ?_
    refine q_seq ?_
    refine sr ?_
    iterate 3 refine ww ?_
    refine nq ?_
    refine sq ?_
    refine sr ?_
    iterate 4 refine ww ?_
    refine cl0 (hc := fun w hS => C_ref_Touch x.m x.b (isT_ok hvn hit) (bbad_ok hbb) w) (h := ?_)
    refine ww ?_
    refine nq ?_
    refine czz (fun h11 => ?_) fun h11 => ?_
    ·
     have hpA : 1 - x.side = 0 ∨ 1 - x.side = 1 := by omega
     refine rg ?_
     iterate 3 refine ww ?_
     refine nr ?_
     iterate 2 refine ww ?_
     refine bs (h := fun b1 => ?_)
     refine ap (es := encI z.ps) (m := z.ps.length) (k := 1) (A := z.pA) (c := z.pc) (h := fun A1 c1 => ?_)
     rw [encI_sn]
     refine ww ?_
     refine nr ?_
     iterate 4 refine ww ?_
     refine cl0 (hc := fun w hS => C_lines_Call x.v x.b x.A x.v.strips.length x.c w (hS.get rdz_) hxn) (h := ?_)
     rw [call_true hvv hbb hit]
     iterate 5 refine ww ?_
     refine nq ?_
     refine sq ?_
     refine sr ?_
     refine ww ?_
     refine wy ((Yd.fl (neq) (by rfl))) ?_
     refine nq ?_
     refine cdF (h := ?_)
     refine skp ?_
     refine q_seq ?_
     refine sq ?_
     refine sr ?_
     iterate 2 refine ww ?_
     refine nq ?_
     refine czz (fun h13 => ?_) fun h13 => ?_
     ·
      have hop := h13
      refine sr ?_
      refine ww ?_
      refine nq ?_
      refine rg ?_
      iterate 3 refine ww ?_
      refine nq ?_
      refine rg ?_
      iterate 4 refine ww ?_
      refine bs (h := fun b2 => ?_)
      refine ap (es := encN z.ys) (m := z.ys.length) (k := 1) (A := z.yA) (c := z.yc) (h := fun A2 c2 => ?_)
      rw [ntS_sn]
      refine ww ?_
      first | refine st (h := ?_) | refine stE (h := ?_)
      refine nl ?_
      refine q_blk_norm ?_
      refine q_seq ?_
      refine rg ?_
      iterate 3 refine ww ?_
      refine nl ?_
      first
       | refine rn (x := z) ⟨z.k + 1, z.ps ++ [1 - x.side], A1, c1, z.ys ++ [ntS (1 - x.side)], A2, c2, z.M⟩ ⟨hkn, by dsimp only; rw [List.length_append, hzp]; rfl, cal_snoc hz.c hpA (And.right (And.intro hno (.inr ⟨rfl, rfl⟩)))⟩ (by dsimp only; omega) (by dsimp only; simp only [List.length_append, List.length_singleton]; repeat (first | exact trivial | refine ⟨rfl, ?_⟩)) (by dsimp only; simp only [List.length_append, List.length_singleton]; repeat (first | exact SubL.nil | (apply SubL.cons; (repeat (first | exact At.here | apply At.there))) | exact SubL.refl _ | apply SubL.skip))
       | refine rn (x := z) ⟨z.k + 1, z.ps ++ [x.side], A1, c1, z.ys ++ [ntS (x.side)], A2, c2, z.M⟩ ⟨hkn, by dsimp only; rw [List.length_append, hzp]; rfl, cal_snoc hz.c hpB (And.right (And.intro hno (.inr ⟨rfl, rfl⟩)))⟩ (by dsimp only; omega) (by dsimp only; simp only [List.length_append, List.length_singleton]; repeat (first | exact trivial | refine ⟨rfl, ?_⟩)) (by dsimp only; simp only [List.length_append, List.length_singleton]; repeat (first | exact SubL.nil | (apply SubL.cons; (repeat (first | exact At.here | apply At.there))) | exact SubL.refl _ | apply SubL.skip))
       | refine rn (x := z) ⟨z.k + 1, z.ps ++ [1 - x.side], A1, c1, z.ys ++ [ntS (-1)], A2, c2, z.M * 2⟩ ⟨hkn, by dsimp only; rw [List.length_append, hzp]; rfl, cal_snoc hz.c hpA (And.right (And.intro hop (.inl ⟨rfl, rfl⟩)))⟩ (by dsimp only; omega) (by dsimp only; simp only [List.length_append, List.length_singleton]; repeat (first | exact trivial | refine ⟨rfl, ?_⟩)) (by dsimp only; simp only [List.length_append, List.length_singleton]; repeat (first | exact SubL.nil | (apply SubL.cons; (repeat (first | exact At.here | apply At.there))) | exact SubL.refl _ | apply SubL.skip))
       | refine rn (x := z) ⟨z.k + 1, z.ps ++ [x.side], A1, c1, z.ys ++ [ntS (-1)], A2, c2, z.M * 2⟩ ⟨hkn, by dsimp only; rw [List.length_append, hzp]; rfl, cal_snoc hz.c hpB (And.right (And.intro hop (.inl ⟨rfl, rfl⟩)))⟩ (by dsimp only; omega) (by dsimp only; simp only [List.length_append, List.length_singleton]; repeat (first | exact trivial | refine ⟨rfl, ?_⟩)) (by dsimp only; simp only [List.length_append, List.length_singleton]; repeat (first | exact SubL.nil | (apply SubL.cons; (repeat (first | exact At.here | apply At.there))) | exact SubL.refl _ | apply SubL.skip))
     ·
      have hno := h13
      refine skp ?_
      refine q_seq ?_
      refine rg ?_
      iterate 4 refine ww ?_
      refine bs (h := fun b3 => ?_)
      refine ap (es := encN z.ys) (m := z.ys.length) (k := 1) (A := z.yA) (c := z.yc) (h := fun A2 c2 => ?_)
      rw [ntS_sn]
      refine ww ?_
      first | refine st (h := ?_) | refine stE (h := ?_)
      refine nl ?_
      refine q_blk_norm ?_
      refine q_seq ?_
      refine rg ?_
      iterate 3 refine ww ?_
      refine nl ?_
      first
       | refine rn (x := z) ⟨z.k + 1, z.ps ++ [1 - x.side], A1, c1, z.ys ++ [ntS (1 - x.side)], A2, c2, z.M⟩ ⟨hkn, by dsimp only; rw [List.length_append, hzp]; rfl, cal_snoc hz.c hpA (And.right (And.intro hno (.inr ⟨rfl, rfl⟩)))⟩ (by dsimp only; omega) (by dsimp only; simp only [List.length_append, List.length_singleton]; repeat (first | exact trivial | refine ⟨rfl, ?_⟩)) (by dsimp only; simp only [List.length_append, List.length_singleton]; repeat (first | exact SubL.nil | (apply SubL.cons; (repeat (first | exact At.here | apply At.there))) | exact SubL.refl _ | apply SubL.skip))
       | refine rn (x := z) ⟨z.k + 1, z.ps ++ [x.side], A1, c1, z.ys ++ [ntS (x.side)], A2, c2, z.M⟩ ⟨hkn, by dsimp only; rw [List.length_append, hzp]; rfl, cal_snoc hz.c hpB (And.right (And.intro hno (.inr ⟨rfl, rfl⟩)))⟩ (by dsimp only; omega) (by dsimp only; simp only [List.length_append, List.length_singleton]; repeat (first | exact trivial | refine ⟨rfl, ?_⟩)) (by dsimp only; simp only [List.length_append, List.length_singleton]; repeat (first | exact SubL.nil | (apply SubL.cons; (repeat (first | exact At.here | apply At.there))) | exact SubL.refl _ | apply SubL.skip))
       | refine rn (x := z) ⟨z.k + 1, z.ps ++ [1 - x.side], A1, c1, z.ys ++ [ntS (-1)], A2, c2, z.M * 2⟩ ⟨hkn, by dsimp only; rw [List.length_append, hzp]; rfl, cal_snoc hz.c hpA (And.right (And.intro hop (.inl ⟨rfl, rfl⟩)))⟩ (by dsimp only; omega) (by dsimp only; simp only [List.length_append, List.length_singleton]; repeat (first | exact trivial | refine ⟨rfl, ?_⟩)) (by dsimp only; simp only [List.length_append, List.length_singleton]; repeat (first | exact SubL.nil | (apply SubL.cons; (repeat (first | exact At.here | apply At.there))) | exact SubL.refl _ | apply SubL.skip))
       | refine rn (x := z) ⟨z.k + 1, z.ps ++ [x.side], A1, c1, z.ys ++ [ntS (-1)], A2, c2, z.M * 2⟩ ⟨hkn, by dsimp only; rw [List.length_append, hzp]; rfl, cal_snoc hz.c hpB (And.right (And.intro hop (.inl ⟨rfl, rfl⟩)))⟩ (by dsimp only; omega) (by dsimp only; simp only [List.length_append, List.length_singleton]; repeat (first | exact trivial | refine ⟨rfl, ?_⟩)) (by dsimp only; simp only [List.length_append, List.length_singleton]; repeat (first | exact SubL.nil | (apply SubL.cons; (repeat (first | exact At.here | apply At.there))) | exact SubL.refl _ | apply SubL.skip))
    ·
     have hpB : x.side = 0 ∨ x.side = 1 := hsd
     refine skp ?_
     refine q_seq ?_
     refine sr ?_
     iterate 2 refine ww ?_
     refine bs (h := fun b4 => ?_)
     refine ap (es := encI z.ps) (m := z.ps.length) (k := 1) (A := z.pA) (c := z.pc) (h := fun A1 c1 => ?_)
     rw [encI_sn]
     refine ww ?_
     refine nr ?_
     iterate 4 refine ww ?_
     refine cl0 (hc := fun w hS => C_lines_Call x.v x.b x.A x.v.strips.length x.c w (hS.get rdz_) hxn) (h := ?_)
     rw [call_true hvv hbb hit]
     iterate 5 refine ww ?_
     refine nq ?_
     refine sq ?_
     refine sr ?_
     refine ww ?_
     refine wy ((Yd.fl (neq) (by rfl))) ?_
     refine nq ?_
     refine cdF (h := ?_)
     refine skp ?_
     refine q_seq ?_
     refine sq ?_
     refine sr ?_
     iterate 2 refine ww ?_
     refine nq ?_
     refine czz (fun h15 => ?_) fun h15 => ?_
     ·
      have hop := h15
      refine sr ?_
      refine ww ?_
      refine nq ?_
      refine rg ?_
      iterate 3 refine ww ?_
      refine nq ?_
      refine rg ?_
      iterate 4 refine ww ?_
      refine bs (h := fun b5 => ?_)
      refine ap (es := encN z.ys) (m := z.ys.length) (k := 1) (A := z.yA) (c := z.yc) (h := fun A2 c2 => ?_)
      rw [ntS_sn]
      refine ww ?_
      first | refine st (h := ?_) | refine stE (h := ?_)
      refine nl ?_
      refine q_blk_norm ?_
      refine q_seq ?_
      refine rg ?_
      iterate 3 refine ww ?_
      refine nl ?_
      first
       | refine rn (x := z) ⟨z.k + 1, z.ps ++ [1 - x.side], A1, c1, z.ys ++ [ntS (1 - x.side)], A2, c2, z.M⟩ ⟨hkn, by dsimp only; rw [List.length_append, hzp]; rfl, cal_snoc hz.c hpA (And.right (And.intro hno (.inr ⟨rfl, rfl⟩)))⟩ (by dsimp only; omega) (by dsimp only; simp only [List.length_append, List.length_singleton]; repeat (first | exact trivial | refine ⟨rfl, ?_⟩)) (by dsimp only; simp only [List.length_append, List.length_singleton]; repeat (first | exact SubL.nil | (apply SubL.cons; (repeat (first | exact At.here | apply At.there))) | exact SubL.refl _ | apply SubL.skip))
       | refine rn (x := z) ⟨z.k + 1, z.ps ++ [x.side], A1, c1, z.ys ++ [ntS (x.side)], A2, c2, z.M⟩ ⟨hkn, by dsimp only; rw [List.length_append, hzp]; rfl, cal_snoc hz.c hpB (And.right (And.intro hno (.inr ⟨rfl, rfl⟩)))⟩ (by dsimp only; omega) (by dsimp only; simp only [List.length_append, List.length_singleton]; repeat (first | exact trivial | refine ⟨rfl, ?_⟩)) (by dsimp only; simp only [List.length_append, List.length_singleton]; repeat (first | exact SubL.nil | (apply SubL.cons; (repeat (first | exact At.here | apply At.there))) | exact SubL.refl _ | apply SubL.skip))
       | refine rn (x := z) ⟨z.k + 1, z.ps ++ [1 - x.side], A1, c1, z.ys ++ [ntS (-1)], A2, c2, z.M * 2⟩ ⟨hkn, by dsimp only; rw [List.length_append, hzp]; rfl, cal_snoc hz.c hpA (And.right (And.intro hop (.inl ⟨rfl, rfl⟩)))⟩ (by dsimp only; omega) (by dsimp only; simp only [List.length_append, List.length_singleton]; repeat (first | exact trivial | refine ⟨rfl, ?_⟩)) (by dsimp only; simp only [List.length_append, List.length_singleton]; repeat (first | exact SubL.nil | (apply SubL.cons; (repeat (first | exact At.here | apply At.there))) | exact SubL.refl _ | apply SubL.skip))
       | refine rn (x := z) ⟨z.k + 1, z.ps ++ [x.side], A1, c1, z.ys ++ [ntS (-1)], A2, c2, z.M * 2⟩ ⟨hkn, by dsimp only; rw [List.length_append, hzp]; rfl, cal_snoc hz.c hpB (And.right (And.intro hop (.inl ⟨rfl, rfl⟩)))⟩ (by dsimp only; omega) (by dsimp only; simp only [List.length_append, List.length_singleton]; repeat (first | exact trivial | refine ⟨rfl, ?_⟩)) (by dsimp only; simp only [List.length_append, List.length_singleton]; repeat (first | exact SubL.nil | (apply SubL.cons; (repeat (first | exact At.here | apply At.there))) | exact SubL.refl _ | apply SubL.skip))
     ·
      have hno := h15
      refine skp ?_
      refine q_seq ?_
      refine rg ?_
      iterate 4 refine ww ?_
      refine bs (h := fun b6 => ?_)
      refine ap (es := encN z.ys) (m := z.ys.length) (k := 1) (A := z.yA) (c := z.yc) (h := fun A2 c2 => ?_)
      rw [ntS_sn]
      refine ww ?_
      first | refine st (h := ?_) | refine stE (h := ?_)
      refine nl ?_
      refine q_blk_norm ?_
      refine q_seq ?_
      refine rg ?_
      iterate 3 refine ww ?_
      refine nl ?_
      first
       | refine rn (x := z) ⟨z.k + 1, z.ps ++ [1 - x.side], A1, c1, z.ys ++ [ntS (1 - x.side)], A2, c2, z.M⟩ ⟨hkn, by dsimp only; rw [List.length_append, hzp]; rfl, cal_snoc hz.c hpA (And.right (And.intro hno (.inr ⟨rfl, rfl⟩)))⟩ (by dsimp only; omega) (by dsimp only; simp only [List.length_append, List.length_singleton]; repeat (first | exact trivial | refine ⟨rfl, ?_⟩)) (by dsimp only; simp only [List.length_append, List.length_singleton]; repeat (first | exact SubL.nil | (apply SubL.cons; (repeat (first | exact At.here | apply At.there))) | exact SubL.refl _ | apply SubL.skip))
       | refine rn (x := z) ⟨z.k + 1, z.ps ++ [x.side], A1, c1, z.ys ++ [ntS (x.side)], A2, c2, z.M⟩ ⟨hkn, by dsimp only; rw [List.length_append, hzp]; rfl, cal_snoc hz.c hpB (And.right (And.intro hno (.inr ⟨rfl, rfl⟩)))⟩ (by dsimp only; omega) (by dsimp only; simp only [List.length_append, List.length_singleton]; repeat (first | exact trivial | refine ⟨rfl, ?_⟩)) (by dsimp only; simp only [List.length_append, List.length_singleton]; repeat (first | exact SubL.nil | (apply SubL.cons; (repeat (first | exact At.here | apply At.there))) | exact SubL.refl _ | apply SubL.skip))
       | refine rn (x := z) ⟨z.k + 1, z.ps ++ [1 - x.side], A1, c1, z.ys ++ [ntS (-1)], A2, c2, z.M * 2⟩ ⟨hkn, by dsimp only; rw [List.length_append, hzp]; rfl, cal_snoc hz.c hpA (And.right (And.intro hop (.inl ⟨rfl, rfl⟩)))⟩ (by dsimp only; omega) (by dsimp only; simp only [List.length_append, List.length_singleton]; repeat (first | exact trivial | refine ⟨rfl, ?_⟩)) (by dsimp only; simp only [List.length_append, List.length_singleton]; repeat (first | exact SubL.nil | (apply SubL.cons; (repeat (first | exact At.here | apply At.there))) | exact SubL.refl _ | apply SubL.skip))
       | refine rn (x := z) ⟨z.k + 1, z.ps ++ [x.side], A1, c1, z.ys ++ [ntS (-1)], A2, c2, z.M * 2⟩ ⟨hkn, by dsimp only; rw [List.length_append, hzp]; rfl, cal_snoc hz.c hpB (And.right (And.intro hop (.inl ⟨rfl, rfl⟩)))⟩ (by dsimp only; omega) (by dsimp only; simp only [List.length_append, List.length_singleton]; repeat (first | exact trivial | refine ⟨rfl, ?_⟩)) (by dsimp only; simp only [List.length_append, List.length_singleton]; repeat (first | exact SubL.nil | (apply SubL.cons; (repeat (first | exact At.here | apply At.there))) | exact SubL.refl _ | apply SubL.skip))
  ·
   have hzk := hz.k
   have hkn : z.k = l.length := by have := of_decide_eq_false h4; omega
   have hzp := hz.p
   have hzl := hz.c.len
   have hzM := hz.c.bd
   have hR := cal_rdy hz.c hck hff (by omega)
   refine et ?_
   iterate 2 refine q_then_exit ?_
   refine q_blk_hit ?_
   refine q_seq ?_
   refine sq ?_
   refine sr ?_
   iterate 3 refine ww ?_
   refine cl (hc := fun w hS => C_ref1_Play f first z.ps z.pA z.ps.length z.pc w (hS.get rdz_) (by omega)) (h := fun y0 _ => ?_)
   iterate 3 refine ww ?_
   refine al (h := fun b15 => ?_)
   first | refine stA (h := ?_) | refine stEA (h := ?_)
   refine ww ?_
   refine nr ?_
   iterate 2 refine ww ?_
   refine nq ?_
   refine czz (fun h16 => ?_) fun h16 => ?_
   ·
    refine sr ?_
    refine cl0 (hc := fun w hS => C_top_seeded w) (h := ?_)
    refine ww ?_
    refine nq ?_
    refine rtn ?_
    refine q_then_ret ?_
    refine q_ret (hR := ?_)
    exact fun w hS => ⟨rfl, hS.sub slz_⟩
   ·
    have hE0 : playE f first z.ps = 0 := by simpa using h16
    obtain ⟨m, hm⟩ : ∃ m, playO f first z.ps = some m := by
     cases e : playO f first z.ps with
     | none => exact absurd hE0 (playE_none e)
     | some m => exact ⟨m, rfl⟩
    obtain ⟨hbad, hpos, hbM, hbI⟩ := cal_law hz.c hR hff hm
    have hml : m.st.length ≤ 9223372036854775807 := by
     have e := (sc_len f first z.ps).1
     rw [hm] at e
     exact Nat.le_trans e (by decide)
    refine skp ?_
    refine q_seq ?_
    refine sr ?_
    iterate 3 refine ww ?_
    refine cl (hc := fun w hS => C_score_Play f first z.ps z.pA z.ps.length z.pc w (hS.get rdz_) (by omega)) (h := fun u _ => ?_)
    rw [hE0, hm]
    iterate 3 refine ww ?_
    refine al (h := fun bS => ?_)
    first | refine stA (h := ?_) | refine stEA (h := ?_)
    refine ww ?_
    refine nr ?_
    refine ww ?_
    refine cl (hc := fun w hS => C_card_BoardsT f first z.ys z.yA z.ys.length z.yc w (hS.get rdz_) (by omega) (fun _ => by have := hR.m; omega) hR.b) (h := fun qa hqa => ?_)
    rw [hpos]
    have hqy := hqa.yes hpos
    have hqM : qa.zs.length ≤ z.M := by
     have e := congrArg List.length hqy
     rw [List.length_map] at e
     omega
    have hqal := hqa.len
    iterate 5 refine ww ?_
    refine nr ?_
    refine ww ?_
    refine cl0 (hc := fun w hS => C_card_First f first z.ys z.yA z.ys.length z.yc w (hS.get rdz_) (by omega) (fun _ => by have := hR.m; omega)) (h := ?_)
    rw [hR.all, hR.c, hbad]
    iterate 5 refine ww ?_
    refine nq ?_
    refine sq ?_
    refine sr ?_
    refine ww ?_
    refine wy ((Yd.fl (neq) (by rfl))) ?_
    refine ww ?_
    refine uw ?_
    refine uz ?_
    refine wy ((Yd.fl (neq) (by rfl))) ?_
    iterate 2 refine ww ?_
    refine uw ?_
    refine uz ?_
    refine wy ((Yd.fl (neq) (by rfl))) ?_
    iterate 2 refine ww ?_
    refine uw ?_
    refine uz ?_
    refine wy ((Yd.fl (neq) (by rfl))) ?_
    iterate 2 refine ww ?_
    iterate 3 refine uw ?_
    refine uz ?_
    refine wy ((Yd.fl (gtr) (by refine decide_eq_false ?_; omega))) ?_
    refine ww ?_
    refine nq ?_
    refine cdF (h := ?_)
    refine skp ?_
    refine q_seq ?_
    refine sq ?_
    refine sr ?_
    refine ww ?_
    refine nq ?_
    refine bk ?_
    refine lp (X := Nat) (I := fun i => i ≤ qa.zs.length ∧ ∀ (j : Nat) y, j < i → qa.zs[j]? = some y → ¬ y.b = ⟨m.st, m.g, m.p⟩) (le := fun i => [(17, .pointer (some ⟨bS, 0, none⟩)), (19, .slice qa.A qa.zs.length qa.c), (23, .int .i64 i)]) (Le := fun _ => [.blk bS 80 (m.sc.cells u.1 u.2), .own u.1 u.2 73 2 m.st.length (encP m.st), .own qa.A qa.c 78 5 qa.zs.length (encX qa.zs), manyE true (qa.zs.map rowX)]) (μ := fun i => qa.zs.length - i) 0 ⟨Nat.zero_le _, fun j y hj => by omega⟩ sbz_ slz_ (fun i hi => ?_)
    obtain ⟨hi0, hall⟩ := hi
    refine sq ?_
    refine sr ?_
    iterate 4 refine ww ?_
    refine nq ?_
    refine czz (fun h18 => ?_) fun h18 => ?_
    ·
     have hin : i < qa.zs.length := by have := of_decide_eq_true h18; omega
     obtain ⟨x1, hx1⟩ : ∃ x, qa.zs[i]? = some x := ⟨_, List.getElem?_eq_getElem hin⟩
     refine skp ?_
     refine q_seq ?_
     refine sq ?_
     refine bk ?_
     refine sq ?_
     refine rgD0 (by kernel_rfl) (h := ?_)
     refine tw 0 ?_
     refine tw 1 ?_
     refine tk 2 (hy := ix (A := qa.A) (m := qa.zs.length)) (h := ?_)
     refine tk 3 (hy := ldEW (A := qa.A) (k := i) (cs := x1.cells) (hk := encX_at hx1)) (h := ?_)
     refine tw 4 ?_
     refine tw 5 ?_
     refine one 6 (h := ?_)
     refine cl0 (hc := fun w hS => C_ref3_SameBoard x1.b ⟨m.st, m.g, m.p⟩ x1.A u.1 x1.b.st.length x1.c m.st.length u.2 w (many_ok (List.mem_of_getElem? hx1) w (hS.ok _ (by repeat (first | exact List.mem_cons_self | apply List.mem_cons_of_mem)))) (hS.get rdz_) (by have := (hqa.sm x1 (List.mem_of_getElem? hx1)).n; omega) (by omega)) (h := ?_)
     refine nx (h := ?_)
     refine dn (h := ?_)
     refine q_seq ?_
     refine czz (fun h19 => ?_) fun h19 => ?_
     ·
      refine sr ?_
      refine cl0 (hc := fun w hS => C_top_seeded w) (h := ?_)
      refine ww ?_
      refine nq ?_
      refine rtn ?_
      refine q_blk_ret ?_
      iterate 2 refine q_then_ret ?_
      refine q_blk_ret ?_
      refine q_then_ret ?_
      refine q_ret (hR := ?_)
      exact fun w hS => ⟨rfl, hS.sub slz_⟩
     ·
      have hne : ¬ x1.b = ⟨m.st, m.g, m.p⟩ := of_decide_eq_false h19
      refine skp ?_
      refine q_blk_norm ?_
      refine q_seq ?_
      refine rg ?_
      iterate 3 refine ww ?_
      refine nl ?_
      refine rn (x := i) (i + 1) ⟨hin, up_step hall hx1 hne⟩ (by omega) sbz_ slz_
    ·
     have hin : i = qa.zs.length := by have := of_decide_eq_false h18; omega
     rw [← hqy] at hbI
     obtain ⟨y, hy, hyb⟩ := List.mem_map.1 hbI
     obtain ⟨j, hj, rfl⟩ := List.getElem_of_mem hy
     exact absurd hyb (hall j _ (by omega) (List.getElem?_eq_getElem hj))
end Go.Proofs.YthkliiifllhacaaGreat
