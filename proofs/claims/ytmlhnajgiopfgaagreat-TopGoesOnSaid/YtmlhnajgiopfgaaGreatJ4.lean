/- The texts of the walk, part 4. -/
import Derived.Test.YtmlhnajgiopfgaaGreatJ3
import Derived.Maps.RangeRun
namespace Go.Proofs.YtmlhnajgiopfgaaGreat
open Go Go.RowKit

def szN (t : Tre) (r : Nat) : Nat := 2 ^ (t.R.toNat - 1 - r)
theorem szN_eq {t : Tre} {r : Nat} (hr : (r : Int) < t.R) : t.sz r = (szN t r : Nat) := by
  unfold Tre.sz szN
  rw [show (t.R - 1 - (r : Int)).toNat = t.R.toNat - 1 - r by omega]
  simp
theorem szN_le {t : Tre} (hR : t.R ≤ 5) (r : Nat) : szN t r ≤ 16 := by
  unfold szN
  exact Nat.le_trans (Nat.pow_le_pow_right (by omega) (show t.R.toNat - 1 - r ≤ 4 by omega)) (by decide)
def rowL (t : Tre) (M : MM) (r : Nat) : List Int := (List.range (szN t r)).map (M r)
theorem rowL_len (t : Tre) (M : MM) (r : Nat) : (rowL t M r).length = szN t r := by unfold rowL; rw [List.length_map, List.length_range]
theorem rowL_get {t : Tre} (M : MM) {r p : Nat} (h : p < szN t r) : (rowL t M r).getD p 0 = M r p := by
  rw [getD_lt (by rw [rowL_len]; exact h)]
  unfold rowL
  rw [List.getElem_map, List.getElem_range]
theorem rowL_set {t : Tre} {M : MM} {r p : Nat} (h : p < szN t r) (v : Int) : (rowL t M r).set p v = rowL t (upM M r p v) r := by
  refine List.ext_getElem? fun i => ?_
  by_cases hi : i < szN t r
  · have e2 : (rowL t (upM M r p v) r)[i]? = some (upM M r p v r i) := by
      unfold rowL
      rw [List.getElem?_map, List.getElem?_range hi]; rfl
    rw [e2]
    by_cases e : p = i
    · subst e
      rw [List.getElem?_set_self (by rw [rowL_len]; exact h)]
      unfold upM
      rw [if_pos ⟨rfl, rfl⟩]
    · rw [List.getElem?_set_ne e]
      unfold rowL upM
      rw [List.getElem?_map, List.getElem?_range hi, if_neg (fun h => e h.2.symm)]; rfl
  · rw [List.getElem?_eq_none (by rw [List.length_set, rowL_len]; omega), List.getElem?_eq_none (by rw [rowL_len]; omega)]
theorem rowL_up {t : Tre} {M : MM} {r r' p : Nat} {v : Int} (h : r' ≠ r) : rowL t (upM M r p v) r' = rowL t M r' := by
  unfold rowL
  congr 1
  funext i
  unfold upM
  rw [if_neg (fun e => h e.1)]
structure MxO (t : Tre) (hs : List MR) (k : Nat) (M : MM) : Prop where
  n : hs.length = k
  row : ∀ r, r < k → ∃ A c, hs[r]? = some (A, c, rowL t M r)
theorem MxO.at_ {t : Tre} {hs : List MR} {k : Nat} {M : MM} (h : MxO t hs k M) {r : Nat} (hr : r < k) : ∃ (A : Option Addr) (c : Nat), hs[r]? = some (A, c, rowL t M r) ∧ (mxV hs)[r]? = some [.slice A (szN t r) c] ∧ ∀ (T : TypeId) (w : World), (mxE T hs).ok w → Rd w A 1 (szN t r) (mI (rowL t M r)) := by
  obtain ⟨A, c, h1⟩ := h.row r hr
  refine ⟨A, c, h1, ?_, fun T w hw => by have := mx_rd h1 w hw; rwa [rowL_len] at this⟩
  unfold mxV
  rw [List.getElem?_map, h1, Option.map_some, rowL_len]
theorem MxO.set {t : Tre} {hs : List MR} {k : Nat} {M : MM} (h : MxO t hs k M) {r p : Nat} {A : Option Addr} {c : Nat} (hr : hs[r]? = some (A, c, rowL t M r)) (hp : p < szN t r) (v : Int) : MxO t (hs.set r (A, c, (rowL t M r).set p v)) k (upM M r p v) := by
  have hi := (List.getElem?_eq_some_iff.1 hr).1
  refine ⟨by rw [List.length_set]; exact h.n, fun r' hr' => ?_⟩
  by_cases e : r = r'
  · subst e
    exact ⟨A, c, by rw [List.getElem?_set_self hi, rowL_set hp]⟩
  · obtain ⟨A', c', h1⟩ := h.row r' hr'
    exact ⟨A', c', by rw [List.getElem?_set_ne e, h1, rowL_up (fun h => e h.symm)]⟩
theorem mxV_set {hs : List MR} {r : Nat} {A : Option Addr} {c : Nat} {xs ys : List Int} (hr : hs[r]? = some (A, c, xs)) (hl : ys.length = xs.length) : mxV (hs.set r (A, c, ys)) = mxV hs := by
  have hi := (List.getElem?_eq_some_iff.1 hr).1
  unfold mxV
  refine List.ext_getElem? fun i => ?_
  rw [List.getElem?_map, List.getElem?_map]
  by_cases e : r = i
  · subst e
    rw [List.getElem?_set_self hi, hr, Option.map_some, Option.map_some, hl]
  · rw [List.getElem?_set_ne e]
theorem MxO.zero (t : Tre) (M : MM) : MxO t [] 0 M := ⟨rfl, fun r h => absurd h (Nat.not_lt_zero _)⟩
theorem MxO.add {t : Tre} {hs : List MR} {k : Nat} {M : MM} (h : MxO t hs k M) (A : Option Addr) (c : Nat) : MxO t (hs ++ [(A, c, rowL t M k)]) (k + 1) M := by
  refine ⟨by rw [List.length_append, h.n]; rfl, fun r hr => ?_⟩
  by_cases e : r = k
  · subst e
    exact ⟨A, c, by rw [List.getElem?_append_right (by rw [h.n]; exact Nat.le_refl _), h.n, Nat.sub_self]; rfl⟩
  · obtain ⟨A', c', h1⟩ := h.row r (by omega)
    exact ⟨A', c', by rw [List.getElem?_append_left (by rw [h.n]; omega), h1]⟩
def rowT (M : MM) (r p : Nat) : List Int := (List.range p).map (M r)
theorem rowT_succ {M : MM} {r p : Nat} {v : Int} (h : M r p = v) : enI (rowT M r p) ++ [[Value.int .i64 v]] = enI (rowT M r (p + 1)) := by
  unfold rowT enI
  rw [List.range_succ, List.map_append, List.map_append]
  show _ ++ [[Value.int .i64 v]] = _ ++ [[Value.int .i64 (M r p)]]
  rw [h]
theorem must_two {sl : List Int} {p : Nat} (h : sl.getD (2 * p + 1) 0 = -1) : mustB sl 0 p = sl.getD (2 * p) 0 := by unfold mustB; rw [if_pos rfl, decide_eq_true h, cond_true]
theorem must_one {sl : List Int} {p : Nat} (h2 : ¬ sl.getD (2 * p + 1) 0 = -1) (h : sl.getD (2 * p) 0 = -1) : mustB sl 0 p = sl.getD (2 * p + 1) 0 := by unfold mustB; rw [if_pos rfl, decide_eq_false h2, cond_false, decide_eq_true h, cond_true]
theorem must_no {sl : List Int} {r p : Nat} (h : ¬ r = 0 ∨ ¬ sl.getD (2 * p) 0 = -1) (h2 : ¬ r = 0 ∨ ¬ sl.getD (2 * p + 1) 0 = -1) : mustB sl r p = -2 := by
  unfold mustB
  by_cases e : r = 0
  · rw [if_pos e, decide_eq_false (h2.resolve_left (fun h => h e)), cond_false, decide_eq_false (h.resolve_left (fun h => h e)), cond_false]
  · rw [if_neg e]
theorem drM_none {all : List Sl} {sl : List Int} {k : Nat} (h : drM all sl k = none) : ∀ m, k ≤ m → drM all sl m = none
  | 0, hm => by rw [show (0 : Nat) = k by omega]; exact h
  | m + 1, hm => by
    by_cases e : k = m + 1
    · rw [← e]; exact h
    · rw [drM, drM_none h m (by omega)]
theorem drM_step {all : List Sl} {sl : List Int} {k : Nat} {M : MM} {x : Sl} (h : drM all sl k = some M) (hx : all[k]? = some x) : drM all sl (k + 1) = slipM all sl k x M := by rw [drM, h, hx]
theorem draw_no {t : Tre} {l : List Sl} (h : playersV t l = none) : drawV t l = none := by unfold drawV; rw [h]
theorem draw_bad {t : Tre} {l : List Sl} {sl : List Int} {k : Nat} (h : playersV t l = some sl) (hk : k ≤ (onceL l).length) (hd : drM (onceL l) sl k = none) : drawV t l = none := by unfold drawV; rw [h]; dsimp only; rw [drM_none hd _ hk]; rfl
theorem draw_yes {t : Tre} {l : List Sl} {sl : List Int} {M : MM} (h : playersV t l = some sl) (hd : drM (onceL l) sl (onceL l).length = some M) : drawV t l = some ⟨sl, M⟩ := by unfold drawV; rw [h]; dsimp only; rw [hd]; rfl
theorem winM_none {M : MM} {a : Nat} {x : Int} {k : Nat} (h : winM M a x k = none) : ∀ m, k ≤ m → winM M a x m = none
  | 0, hm => by rw [show (0 : Nat) = k by omega]; exact h
  | m + 1, hm => by
    by_cases e : k = m + 1
    · rw [← e]; exact h
    · rw [winM, winM_none h m (by omega)]
theorem winM_bad {M M' : MM} {a : Nat} {x : Int} {k : Nat} (h : winM M a x k = some M') (hb : M' k (a / 2 ^ (k + 1)) ≠ -2 ∧ M' k (a / 2 ^ (k + 1)) ≠ x) : winM M a x (k + 1) = none := by rw [winM, h]; exact if_pos hb
theorem winM_next {M M' : MM} {a : Nat} {x : Int} {k : Nat} (h : winM M a x k = some M') (hb : ¬ (M' k (a / 2 ^ (k + 1)) ≠ -2 ∧ M' k (a / 2 ^ (k + 1)) ≠ x)) : winM M a x (k + 1) = some (upM M' k (a / 2 ^ (k + 1)) x) := by rw [winM, h]; exact if_neg hb
theorem slip_lt {t : Tre} (ht : TOk t) {a r : Nat} (ha : a < t.sl.length) (hr : (r : Int) < t.R) : a / 2 ^ (r + 1) < szN t r := by
  rw [ht.n] at ha
  unfold szN
  refine Nat.div_lt_of_lt_mul ?_
  rw [← Nat.pow_add, show r + 1 + (t.R.toNat - 1 - r) = t.R.toNat by omega]
  exact ha
structure DrR where
  (b : Bool) (d : Dr) (sA : Option Addr) (sc : Nat) (hs : List MR) (mA : Option Addr) (mc : Nat)
def DrP (t : Tre) (l : List Sl) (q : DrR) : Prop := (q.b = true → drawV t l = some q.d ∧ PlO t q.d.sl ∧ MxO t q.hs t.R.toNat q.d.M) ∧ (q.b = false → drawV t l = none)
abbrev DrR.val (q : DrR) : Value := .agg #[.slice q.sA q.d.sl.length q.sc, .slice q.mA q.hs.length q.mc]
abbrev DrR.ents (q : DrR) : List Ent := [.own q.sA q.sc 3 1 q.d.sl.length (enI q.d.sl), .own q.mA q.mc 22 1 q.hs.length (mxV q.hs), mxE 3 q.hs]
structure MwZ where
  (r : Nat) (M : MM) (hs : List MR)
structure RwZ where
  (r : Nat) (hs : List MR) (A : Option Addr) (c : Nat)
set_option maxRecDepth 100000 in
set_option maxHeartbeats 4000000 in
theorem C_ref7_draw (t : Tre) (l : List Sl) (A : Option Addr) (c : Nat) (ht : TOk t) (hs : ∀ x ∈ l, slpB t x = true) (hl : l.length ≤ 60) (w : World) (h : Rd w t.A 1 t.sl.length (enI t.sl)) (hL : Rd w A 5 l.length (encSl l)) :
    CR Tryz.prog 37 [t.val, .slice A l.length c] w (DrP t l) (fun q => .tuple #[q.val, .bool q.b]) (fun q => q.ents) := by
  obtain ⟨all, hall⟩ : ∃ all, all = onceL l := ⟨_, rfl⟩
  have hal : all.length ≤ l.length := by rw [hall]; exact once_len l
  have hR := ht.r
  have hz0 := ht.sz0
  have hnb : t.sl.length ≤ 32 := by rw [ht.n]; exact Nat.le_trans (Nat.pow_le_pow_right (by omega) (show t.R.toNat ≤ 5 by omega)) (by decide)
  refine ⟨en Tryz.func37 Tryz.ntmps37 (((St.init w).share (e := .ro t.A 1 t.sl.length (enI t.sl)) h rfl rfl rfl).share (e := .ro A 5 l.length (encSl l)) hL rfl rfl rfl) (h := fun F => ?_)⟩
  refine sq (h := ?_)
  refine rg (h := ?_)
  refine bxA (h := fun b0 => ?_)
  refine al (h := fun brs => ?_)
  refine wy asg ?_
  refine WL.cut (by repeat (first | exact Cut.nil | apply Cut.hit | apply Cut.miss (by exact rfl))) ?_
  refine nl (h := ?_)
  refine q_seq (h := ?_)
  refine sq (h := ?_)
  refine rg (h := ?_)
  refine wy (by first | exact ldA | exact ldEA) ?_
  refine wy mv ?_
  refine cl (hc := fun w hS => C_ref7_Players t l A c (by omega) (by omega) w (hS.get rdz_) (hS.get rdz_)) (h := fun x0 hx0 => ?_)
  refine wy mv ?_
  refine wy ex ?_
  refine wy ex ?_
  refine wy asg ?_
  refine WL.cut (by repeat (first | exact Cut.nil | apply Cut.hit | apply Cut.miss (by exact rfl))) ?_
  refine wy asg ?_
  refine WL.cut (by repeat (first | exact Cut.nil | apply Cut.hit | apply Cut.miss (by exact rfl))) ?_
  refine nl (h := ?_)
  refine q_seq (h := ?_)
  refine sq (h := ?_)
  refine sq (h := ?_)
  refine rg (h := ?_)
  refine wy mv ?_
  refine wy notB ?_
  refine nl (h := ?_)
  refine q_seq (h := ?_)
  refine cd (by exact rfl) (fun h0 => ?_) (fun h0 => ?_)
  · skip
    have hno := draw_no (hx0.2 (by rwa [Bool.not_eq_true'] at h0))
    refine sq (h := ?_)
    refine WC.nilOwn 3 1 (h := ?_)
    refine WC.nilOwn 22 1 (h := ?_)
    refine WC.mx0 3 (h := ?_)
    refine rg (h := ?_)
    refine wy bd ?_
    first | refine stA (h := ?_) | refine stEA (h := ?_)
    refine wy asg ?_
    refine WL.cut (by repeat (first | exact Cut.nil | apply Cut.hit | apply Cut.miss (by exact rfl))) ?_
    refine nl (h := ?_)
    refine q_seq (h := ?_)
    refine rtn (h := ?_)
    refine q_then_ret (h := ?_)
    refine q_ret (hR := ?_)
    first
      | exact fun w hS => ⟨⟨false, ⟨[], mustB []⟩, none, 0, [], none, 0⟩, ⟨fun h9 => (by cases h9), fun _ => hno⟩, rfl, hS.sub slz_⟩
      | exact fun w hS => ⟨⟨true, ⟨x0.out, y.M⟩, x0.A, x0.c, y.hs, z.A, z.c⟩, ⟨fun _ => ⟨draw_yes hpv (by rw [← hall, ← hyn]; exact hyd), hpo, hyM⟩, fun h9 => (by cases h9)⟩, by show _ = Ending.returned (.tuple #[.agg #[.slice x0.A x0.out.length x0.c, .slice z.A y.hs.length z.c], .bool true]); rw [hyl]; rfl, by show St _ _ [.own x0.A x0.c 3 1 x0.out.length (enI x0.out), .own z.A z.c 22 1 y.hs.length (mxV y.hs), mxE 3 y.hs]; rw [hyl, hyV]; exact hS.sub slz_⟩
  · skip
    have hpv := hx0.1 (by rwa [Bool.not_eq_false'] at h0)
    have hpo := players_ok ht hs hpv
    have hpn := hpo.n
    refine skp (h := ?_)
    refine q_seq (h := ?_)
    refine sq (h := ?_)
    refine rg (h := ?_)
    refine wy mv ?_
    refine wy bd ?_
    refine al (h := fun bdr => ?_)
    first | refine stA (h := ?_) | refine stEA (h := ?_)
    refine nl (h := ?_)
    refine q_seq (h := ?_)
    refine sq (h := ?_)
    refine sq (h := ?_)
    refine WC.nilOwn 22 1 (h := ?_)
    refine WC.mx0 3 (h := ?_)
    refine rg (h := ?_)
    refine wy asg ?_
    refine WL.cut (by repeat (first | exact Cut.nil | apply Cut.hit | apply Cut.miss (by exact rfl))) ?_
    refine nl (h := ?_)
    refine q_seq (h := ?_)
    refine bk (h := ?_)
    refine lp (X := RwZ) (I := fun z => z.r ≤ t.R.toNat ∧ MxO t z.hs z.r (mustB x0.out)) (le := fun z => [(1, .slice A l.length c), (2, .pointer (some ⟨b0, 0, none⟩)), (4, .pointer (some ⟨brs, 0, none⟩)), (6, .slice x0.A x0.out.length x0.c), (8, .pointer (some ⟨bdr, 0, none⟩)), (9, .int .i64 z.r)]) (Le := fun z => [.blk brs 102 [.slice none 0 0, .slice none 0 0], .blk bdr 102 [.slice x0.A x0.out.length x0.c, .slice z.A z.hs.length z.c], .own z.A z.c 22 1 z.hs.length (mxV z.hs), mxE 3 z.hs, .own x0.A x0.c 3 1 x0.out.length (enI x0.out), .blk b0 24 t.cells, .ro A 5 l.length (encSl l)]) (μ := fun z => t.R.toNat - z.r) ⟨0, [], none, 0⟩ ⟨Nat.zero_le _, MxO.zero _ _⟩ sbz_ slz_ (fun z hz => ?_)
    obtain ⟨hzR, hzM⟩ := hz
    have hzl := hzM.n
    refine sq (h := ?_)
    refine sq (h := ?_)
    refine rg (h := ?_)
    refine wy mv ?_
    refine wy (by first | exact fa | exact faE) ?_
    refine wy (by first | exact ld | exact ldE) ?_
    refine wy lss ?_
    refine nl (h := ?_)
    refine q_seq (h := ?_)
    refine cd (by exact rfl) (fun h1 => ?_) (fun h1 => ?_)
    · skip
      have hzn : z.r < t.R.toNat := by have := of_decide_eq_true h1; omega
      have hsl := szN_le (t := t) (by omega) z.r
      refine skp (h := ?_)
      refine q_seq (h := ?_)
      refine sq (h := ?_)
      refine bk (h := ?_)
      refine sq (h := ?_)
      refine rg (h := ?_)
      refine wy asg ?_
      refine WL.cut (by repeat (first | exact Cut.nil | apply Cut.hit | apply Cut.miss (by exact rfl))) ?_
      refine nl (h := ?_)
      refine q_seq (h := ?_)
      refine sq (h := ?_)
      refine sq (h := ?_)
      refine WC.nilOwn 3 1 (h := ?_)
      refine rg (h := ?_)
      refine wy asg ?_
      refine WL.cut (by repeat (first | exact Cut.nil | apply Cut.hit | apply Cut.miss (by exact rfl))) ?_
      refine nl (h := ?_)
      refine q_seq (h := ?_)
      refine bk (h := ?_)
      refine lp (X := OnZ) (I := fun v => v.k ≤ szN t z.r) (le := fun v => [(1, .slice A l.length c), (2, .pointer (some ⟨b0, 0, none⟩)), (4, .pointer (some ⟨brs, 0, none⟩)), (6, .slice x0.A x0.out.length x0.c), (8, .pointer (some ⟨bdr, 0, none⟩)), (9, .int .i64 z.r), (10, .slice v.A v.k v.c), (11, .int .i64 v.k)]) (Le := fun v => [.own v.A v.c 3 1 v.k (enI (rowT (mustB x0.out) z.r v.k)), .blk brs 102 [.slice none 0 0, .slice none 0 0], .blk bdr 102 [.slice x0.A x0.out.length x0.c, .slice z.A z.hs.length z.c], .own z.A z.c 22 1 z.hs.length (mxV z.hs), mxE 3 z.hs, .own x0.A x0.c 3 1 x0.out.length (enI x0.out), .blk b0 24 t.cells, .ro A 5 l.length (encSl l)]) (μ := fun v => szN t z.r - v.k) ⟨0, none, 0⟩ (Nat.zero_le _) sbz_ slz_ (fun v hv => ?_)
      refine sq (h := ?_)
      refine sq (h := ?_)
      refine rg (h := ?_)
      refine wy mv ?_
      refine wy (by first | exact ldA | exact ldEA) ?_
      refine wy mv ?_
      refine cl0 (hc := fun w hS => C_ref7_Places t z.r (by omega) (by omega) w) (h := ?_)
      rw [szN_eq (by omega)]
      refine wy lss ?_
      refine nl (h := ?_)
      refine q_seq (h := ?_)
      refine cd (by exact rfl) (fun h2 => ?_) (fun h2 => ?_)
      · skip
        have hvp : v.k < szN t z.r := by have := of_decide_eq_true h2; omega
        refine skp (h := ?_)
        refine q_seq (h := ?_)
        refine sq (h := ?_)
        refine bk (h := ?_)
        refine sq (h := ?_)
        refine rg (h := ?_)
        refine wy asg ?_
        refine WL.cut (by repeat (first | exact Cut.nil | apply Cut.hit | apply Cut.miss (by exact rfl))) ?_
        refine nl (h := ?_)
        refine q_seq (h := ?_)
        refine sq (h := ?_)
        refine sq (h := ?_)
        refine rg (h := ?_)
        refine wy mv ?_
        refine wy eql ?_
        refine wy mv ?_
        apply brAnd 7 48 55 (by exact rfl)
        · intro hb3
          have hr0 : z.r = 0 := by have := of_decide_eq_true hb3; omega
          have hz1 : 2 * v.k + 1 < x0.out.length := by rw [hr0] at hvp; have hs0 : t.sz 0 = (szN t 0 : Nat) := szN_eq (r := 0) (by omega); omega
          have e1 : (enI x0.out)[(2 * (v.k : Int)).toNat]? = some [.int .i64 (x0.out.getD (2 * v.k) 0)] := by rw [show (2 * (v.k : Int)).toNat = 2 * v.k by omega]; exact enI_at (at_getD (by omega))
          have e2 : (enI x0.out)[(2 * (v.k : Int) + 1).toNat]? = some [.int .i64 (x0.out.getD (2 * v.k + 1) 0)] := by rw [show (2 * (v.k : Int) + 1).toNat = 2 * v.k + 1 by omega]; exact enI_at (at_getD (by omega))
          refine un (h := ?_)
          refine wy mv ?_
          refine un (h := ?_)
          refine wy mv ?_
          refine un (h := ?_)
          refine wy mulI ?_
          refine un (h := ?_)
          refine wy (ix (A := x0.A) (m := x0.out.length) (hb := by omega)) ?_
          refine un (h := ?_)
          refine wy (ldE (hk := e1)) ?_
          refine un (h := ?_)
          refine wy eql ?_
          refine wy (by first | exact pkT | exact pkF) ?_
          exact mg (by repeat (first | exact trivial | refine ⟨rfl, ?_⟩ | refine ⟨by rw [hb3]; rfl, ?_⟩)) slz_
        · intro hb3
          repeat (first | refine un (h := ?_) | refine sk (h := ?_) | refine WL.y (hy := pkF) (h := ?_) | refine WL.y (hy := pkT) (h := ?_))
          exact mg (by repeat (first | exact trivial | refine ⟨rfl, ?_⟩ | refine ⟨by rw [hb3]; rfl, ?_⟩)) slz_
        refine nl (h := ?_)
        refine q_seq (h := ?_)
        refine cd (by exact rfl) (fun h4 => ?_) (fun h4 => ?_)
        · skip
          have h55 := h4
          rw [Bool.and_eq_true, decide_eq_true_eq, decide_eq_true_eq] at h55
          have hr0 : z.r = 0 := by omega
          have hz1 : 2 * v.k + 1 < x0.out.length := by rw [hr0] at hvp; have hs0 : t.sz 0 = (szN t 0 : Nat) := szN_eq (r := 0) (by omega); omega
          have e1 : (enI x0.out)[(2 * (v.k : Int)).toNat]? = some [.int .i64 (x0.out.getD (2 * v.k) 0)] := by rw [show (2 * (v.k : Int)).toNat = 2 * v.k by omega]; exact enI_at (at_getD (by omega))
          have e2 : (enI x0.out)[(2 * (v.k : Int) + 1).toNat]? = some [.int .i64 (x0.out.getD (2 * v.k + 1) 0)] := by rw [show (2 * (v.k : Int) + 1).toNat = 2 * v.k + 1 by omega]; exact enI_at (at_getD (by omega))
          refine rg (h := ?_)
          refine wy mv ?_
          refine wy mv ?_
          refine wy mulI ?_
          refine wy addI ?_
          refine wy (ix (A := x0.A) (m := x0.out.length) (hb := by omega)) ?_
          refine wy (ldE (hk := e2)) ?_
          refine wy asg ?_
          refine WL.cut (by repeat (first | exact Cut.nil | apply Cut.hit | apply Cut.miss (by exact rfl))) ?_
          refine nl (h := ?_)
          refine q_seq (h := ?_)
          refine sq (h := ?_)
          refine sq (h := ?_)
          refine rg (h := ?_)
          refine wy mv ?_
          refine wy eql ?_
          refine wy mv ?_
          apply brAnd 8 64 72 (by exact rfl)
          · intro hb5
            have hr0 : z.r = 0 := by have := of_decide_eq_true hb5; omega
            have hz1 : 2 * v.k + 1 < x0.out.length := by rw [hr0] at hvp; have hs0 : t.sz 0 = (szN t 0 : Nat) := szN_eq (r := 0) (by omega); omega
            have e1 : (enI x0.out)[(2 * (v.k : Int)).toNat]? = some [.int .i64 (x0.out.getD (2 * v.k) 0)] := by rw [show (2 * (v.k : Int)).toNat = 2 * v.k by omega]; exact enI_at (at_getD (by omega))
            have e2 : (enI x0.out)[(2 * (v.k : Int) + 1).toNat]? = some [.int .i64 (x0.out.getD (2 * v.k + 1) 0)] := by rw [show (2 * (v.k : Int) + 1).toNat = 2 * v.k + 1 by omega]; exact enI_at (at_getD (by omega))
            refine un (h := ?_)
            refine wy mv ?_
            refine un (h := ?_)
            refine wy mv ?_
            refine un (h := ?_)
            refine wy mulI ?_
            refine un (h := ?_)
            refine wy addI ?_
            refine un (h := ?_)
            refine wy (ix (A := x0.A) (m := x0.out.length) (hb := by omega)) ?_
            refine un (h := ?_)
            refine wy (ldE (hk := e2)) ?_
            refine un (h := ?_)
            refine wy eql ?_
            refine wy (by first | exact pkT | exact pkF) ?_
            exact mg (by repeat (first | exact trivial | refine ⟨rfl, ?_⟩ | refine ⟨by rw [hb5]; rfl, ?_⟩)) slz_
          · intro hb5
            repeat (first | refine un (h := ?_) | refine sk (h := ?_) | refine WL.y (hy := pkF) (h := ?_) | refine WL.y (hy := pkT) (h := ?_))
            exact mg (by repeat (first | exact trivial | refine ⟨rfl, ?_⟩ | refine ⟨by rw [hb5]; rfl, ?_⟩)) slz_
          refine nl (h := ?_)
          refine q_seq (h := ?_)
          refine cd (by exact rfl) (fun h6 => ?_) (fun h6 => ?_)
          · skip
            have h72 := h6
            rw [Bool.and_eq_true, decide_eq_true_eq, decide_eq_true_eq] at h72
            have hr0 : z.r = 0 := by omega
            have hz1 : 2 * v.k + 1 < x0.out.length := by rw [hr0] at hvp; have hs0 : t.sz 0 = (szN t 0 : Nat) := szN_eq (r := 0) (by omega); omega
            have e1 : (enI x0.out)[(2 * (v.k : Int)).toNat]? = some [.int .i64 (x0.out.getD (2 * v.k) 0)] := by rw [show (2 * (v.k : Int)).toNat = 2 * v.k by omega]; exact enI_at (at_getD (by omega))
            have e2 : (enI x0.out)[(2 * (v.k : Int) + 1).toNat]? = some [.int .i64 (x0.out.getD (2 * v.k + 1) 0)] := by rw [show (2 * (v.k : Int) + 1).toNat = 2 * v.k + 1 by omega]; exact enI_at (at_getD (by omega))
            have hmu : mustB x0.out z.r v.k = x0.out.getD (2 * v.k) 0 := by rw [hr0]; exact must_two h72.2
            refine rg (h := ?_)
            refine wy mv ?_
            refine wy mv ?_
            refine wy mulI ?_
            refine wy (ix (A := x0.A) (m := x0.out.length) (hb := by omega)) ?_
            refine wy (ldE (hk := e1)) ?_
            refine wy asg ?_
            refine WL.cut (by repeat (first | exact Cut.nil | apply Cut.hit | apply Cut.miss (by exact rfl))) ?_
            refine nl (h := ?_)
            refine q_seq (h := ?_)
            refine rg (h := ?_)
            refine wy mv ?_
            refine wy mv ?_
            refine bs (h := fun b1 => ?_)
            refine ap (es := enI (rowT (mustB x0.out) z.r v.k)) (m := v.k) (k := 1) (A := v.A) (c := v.c) (h := fun A1 c1 => ?_)
            rw [rowT_succ hmu]
            refine wy asg ?_
            refine WL.cut (by repeat (first | exact Cut.nil | apply Cut.hit | apply Cut.miss (by exact rfl))) ?_
            refine nl (h := ?_)
            refine q_blk_norm (h := ?_)
            refine q_seq (h := ?_)
            refine rg (h := ?_)
            refine wy mv ?_
            refine wy addI ?_
            refine wy asg ?_
            refine WL.cut (by repeat (first | exact Cut.nil | apply Cut.hit | apply Cut.miss (by exact rfl))) ?_
            refine nl (h := ?_)
            refine rn (x := v) ⟨v.k + 1, A1, c1⟩ hvp (by dsimp only; omega) sbz_ slz_
          · skip
            have h72 : ¬ z.r = 0 ∨ ¬ x0.out.getD (2 * v.k + 1) 0 = -1 := by
              have h9 := h6
              rw [Bool.and_eq_false_iff, decide_eq_false_iff_not, decide_eq_false_iff_not] at h9
              exact h9.imp (fun h8 h7 => h8 (by omega)) id
            first
              | have hmu : mustB x0.out z.r v.k = x0.out.getD (2 * v.k + 1) 0 := by rw [hr0]; exact must_one (h72.resolve_left (fun h9 => h9 hr0)) h55.2
              | have hmu : mustB x0.out z.r v.k = -2 := must_no h55 h72
            refine skp (h := ?_)
            refine q_seq (h := ?_)
            refine rg (h := ?_)
            refine wy mv ?_
            refine wy mv ?_
            refine bs (h := fun b2 => ?_)
            refine ap (es := enI (rowT (mustB x0.out) z.r v.k)) (m := v.k) (k := 1) (A := v.A) (c := v.c) (h := fun A1 c1 => ?_)
            rw [rowT_succ hmu]
            refine wy asg ?_
            refine WL.cut (by repeat (first | exact Cut.nil | apply Cut.hit | apply Cut.miss (by exact rfl))) ?_
            refine nl (h := ?_)
            refine q_blk_norm (h := ?_)
            refine q_seq (h := ?_)
            refine rg (h := ?_)
            refine wy mv ?_
            refine wy addI ?_
            refine wy asg ?_
            refine WL.cut (by repeat (first | exact Cut.nil | apply Cut.hit | apply Cut.miss (by exact rfl))) ?_
            refine nl (h := ?_)
            refine rn (x := v) ⟨v.k + 1, A1, c1⟩ hvp (by dsimp only; omega) sbz_ slz_
        · skip
          have h55 : ¬ z.r = 0 ∨ ¬ x0.out.getD (2 * v.k) 0 = -1 := by
            have h9 := h4
            rw [Bool.and_eq_false_iff, decide_eq_false_iff_not, decide_eq_false_iff_not] at h9
            exact h9.imp (fun h8 h7 => h8 (by omega)) id
          refine skp (h := ?_)
          refine q_seq (h := ?_)
          refine sq (h := ?_)
          refine sq (h := ?_)
          refine rg (h := ?_)
          refine wy mv ?_
          refine wy eql ?_
          refine wy mv ?_
          apply brAnd 8 64 72 (by exact rfl)
          · intro hb7
            have hr0 : z.r = 0 := by have := of_decide_eq_true hb7; omega
            have hz1 : 2 * v.k + 1 < x0.out.length := by rw [hr0] at hvp; have hs0 : t.sz 0 = (szN t 0 : Nat) := szN_eq (r := 0) (by omega); omega
            have e1 : (enI x0.out)[(2 * (v.k : Int)).toNat]? = some [.int .i64 (x0.out.getD (2 * v.k) 0)] := by rw [show (2 * (v.k : Int)).toNat = 2 * v.k by omega]; exact enI_at (at_getD (by omega))
            have e2 : (enI x0.out)[(2 * (v.k : Int) + 1).toNat]? = some [.int .i64 (x0.out.getD (2 * v.k + 1) 0)] := by rw [show (2 * (v.k : Int) + 1).toNat = 2 * v.k + 1 by omega]; exact enI_at (at_getD (by omega))
            refine un (h := ?_)
            refine wy mv ?_
            refine un (h := ?_)
            refine wy mv ?_
            refine un (h := ?_)
            refine wy mulI ?_
            refine un (h := ?_)
            refine wy addI ?_
            refine un (h := ?_)
            refine wy (ix (A := x0.A) (m := x0.out.length) (hb := by omega)) ?_
            refine un (h := ?_)
            refine wy (ldE (hk := e2)) ?_
            refine un (h := ?_)
            refine wy eql ?_
            refine wy (by first | exact pkT | exact pkF) ?_
            exact mg (by repeat (first | exact trivial | refine ⟨rfl, ?_⟩ | refine ⟨by rw [hb7]; rfl, ?_⟩)) slz_
          · intro hb7
            repeat (first | refine un (h := ?_) | refine sk (h := ?_) | refine WL.y (hy := pkF) (h := ?_) | refine WL.y (hy := pkT) (h := ?_))
            exact mg (by repeat (first | exact trivial | refine ⟨rfl, ?_⟩ | refine ⟨by rw [hb7]; rfl, ?_⟩)) slz_
          refine nl (h := ?_)
          refine q_seq (h := ?_)
          refine cd (by exact rfl) (fun h8 => ?_) (fun h8 => ?_)
          · skip
            have h72 := h8
            rw [Bool.and_eq_true, decide_eq_true_eq, decide_eq_true_eq] at h72
            have hr0 : z.r = 0 := by omega
            have hz1 : 2 * v.k + 1 < x0.out.length := by rw [hr0] at hvp; have hs0 : t.sz 0 = (szN t 0 : Nat) := szN_eq (r := 0) (by omega); omega
            have e1 : (enI x0.out)[(2 * (v.k : Int)).toNat]? = some [.int .i64 (x0.out.getD (2 * v.k) 0)] := by rw [show (2 * (v.k : Int)).toNat = 2 * v.k by omega]; exact enI_at (at_getD (by omega))
            have e2 : (enI x0.out)[(2 * (v.k : Int) + 1).toNat]? = some [.int .i64 (x0.out.getD (2 * v.k + 1) 0)] := by rw [show (2 * (v.k : Int) + 1).toNat = 2 * v.k + 1 by omega]; exact enI_at (at_getD (by omega))
            have hmu : mustB x0.out z.r v.k = x0.out.getD (2 * v.k) 0 := by rw [hr0]; exact must_two h72.2
            refine rg (h := ?_)
            refine wy mv ?_
            refine wy mv ?_
            refine wy mulI ?_
            refine wy (ix (A := x0.A) (m := x0.out.length) (hb := by omega)) ?_
            refine wy (ldE (hk := e1)) ?_
            refine wy asg ?_
            refine WL.cut (by repeat (first | exact Cut.nil | apply Cut.hit | apply Cut.miss (by exact rfl))) ?_
            refine nl (h := ?_)
            refine q_seq (h := ?_)
            refine rg (h := ?_)
            refine wy mv ?_
            refine wy mv ?_
            refine bs (h := fun b3 => ?_)
            refine ap (es := enI (rowT (mustB x0.out) z.r v.k)) (m := v.k) (k := 1) (A := v.A) (c := v.c) (h := fun A1 c1 => ?_)
            rw [rowT_succ hmu]
            refine wy asg ?_
            refine WL.cut (by repeat (first | exact Cut.nil | apply Cut.hit | apply Cut.miss (by exact rfl))) ?_
            refine nl (h := ?_)
            refine q_blk_norm (h := ?_)
            refine q_seq (h := ?_)
            refine rg (h := ?_)
            refine wy mv ?_
            refine wy addI ?_
            refine wy asg ?_
            refine WL.cut (by repeat (first | exact Cut.nil | apply Cut.hit | apply Cut.miss (by exact rfl))) ?_
            refine nl (h := ?_)
            refine rn (x := v) ⟨v.k + 1, A1, c1⟩ hvp (by dsimp only; omega) sbz_ slz_
          · skip
            have h72 : ¬ z.r = 0 ∨ ¬ x0.out.getD (2 * v.k + 1) 0 = -1 := by
              have h9 := h8
              rw [Bool.and_eq_false_iff, decide_eq_false_iff_not, decide_eq_false_iff_not] at h9
              exact h9.imp (fun h8 h7 => h8 (by omega)) id
            first
              | have hmu : mustB x0.out z.r v.k = x0.out.getD (2 * v.k + 1) 0 := by rw [hr0]; exact must_one (h72.resolve_left (fun h9 => h9 hr0)) h55.2
              | have hmu : mustB x0.out z.r v.k = -2 := must_no h55 h72
            refine skp (h := ?_)
            refine q_seq (h := ?_)
            refine rg (h := ?_)
            refine wy mv ?_
            refine wy mv ?_
            refine bs (h := fun b4 => ?_)
            refine ap (es := enI (rowT (mustB x0.out) z.r v.k)) (m := v.k) (k := 1) (A := v.A) (c := v.c) (h := fun A1 c1 => ?_)
            rw [rowT_succ hmu]
            refine wy asg ?_
            refine WL.cut (by repeat (first | exact Cut.nil | apply Cut.hit | apply Cut.miss (by exact rfl))) ?_
            refine nl (h := ?_)
            refine q_blk_norm (h := ?_)
            refine q_seq (h := ?_)
            refine rg (h := ?_)
            refine wy mv ?_
            refine wy addI ?_
            refine wy asg ?_
            refine WL.cut (by repeat (first | exact Cut.nil | apply Cut.hit | apply Cut.miss (by exact rfl))) ?_
            refine nl (h := ?_)
            refine rn (x := v) ⟨v.k + 1, A1, c1⟩ hvp (by dsimp only; omega) sbz_ slz_
      · skip
        have hvn : v.k = szN t z.r := by have := of_decide_eq_false h2; omega
        refine et (h := ?_)
        refine q_then_exit (h := ?_)
        refine q_then_exit (h := ?_)
        refine q_blk_hit (h := ?_)
        refine q_seq (h := ?_)
        refine rg (h := ?_)
        refine wy (by first | exact fa | exact faE) ?_
        refine wy (by first | exact ld | exact ldE) ?_
        refine wy mv ?_
        refine bs (h := fun b5 => ?_)
        refine ap (es := mxV z.hs) (m := z.hs.length) (k := 1) (A := z.A) (c := z.c) (h := fun A2 c2 => ?_)
        refine wy (by first | exact fa | exact faE) ?_
        first | refine st (h := ?_) | refine stE (h := ?_)
        refine nl (h := ?_)
        refine q_blk_norm (h := ?_)
        refine q_seq (h := ?_)
        refine WC.mxAdd (hs := z.hs) v.A v.c (rowL t (mustB x0.out) z.r) atz_ atz_ (by rw [rowL_len]; exact hvn) (by rw [hvn]; rfl) ?_
        rw [show mxV z.hs ++ [[Value.slice v.A v.k v.c]] = mxV (z.hs ++ [(v.A, v.c, rowL t (mustB x0.out) z.r)]) by rw [mxV_app, hvn]; show _ = mxV z.hs ++ [[Value.slice v.A (rowL t (mustB x0.out) z.r).length v.c]]; rw [rowL_len], show z.hs.length + 1 = (z.hs ++ [(v.A, v.c, rowL t (mustB x0.out) z.r)]).length by rw [List.length_append]; rfl]
        refine rg (h := ?_)
        refine wy mv ?_
        refine wy addI ?_
        refine wy asg ?_
        refine WL.cut (by repeat (first | exact Cut.nil | apply Cut.hit | apply Cut.miss (by exact rfl))) ?_
        refine nl (h := ?_)
        refine rn (x := z) ⟨z.r + 1, z.hs ++ [(v.A, v.c, rowL t (mustB x0.out) z.r)], A2, c2⟩ ⟨hzn, hzM.add _ _⟩ (by dsimp only; omega) sbz_ slz_
    · skip
      have hzn : z.r = t.R.toNat := by have := of_decide_eq_false h1; omega
      rw [hzn] at hzM
      have hzl := hzM.n
      refine et (h := ?_)
      refine q_then_exit (h := ?_)
      refine q_then_exit (h := ?_)
      refine q_blk_hit (h := ?_)
      refine q_seq (h := ?_)
      refine sq (h := ?_)
      refine rg (h := ?_)
      refine wy mv ?_
      refine cl (hc := fun w hS => C_ref7_once l A c (by omega) w (hS.get rdz_)) (h := fun x2 _ => ?_)
      refine wy asg ?_
      refine WL.cut (by repeat (first | exact Cut.nil | apply Cut.hit | apply Cut.miss (by exact rfl))) ?_
      refine nl (h := ?_)
      refine q_seq (h := ?_)
      refine sq (h := ?_)
      refine sq (h := ?_)
      refine WC.toRo (A := x2.1) .here ?_
      rw [← hall]
      refine rg (h := ?_)
      refine wy asg ?_
      refine WL.cut (by repeat (first | exact Cut.nil | apply Cut.hit | apply Cut.miss (by exact rfl))) ?_
      refine nl (h := ?_)
      refine q_seq (h := ?_)
      refine bk (h := ?_)
      refine lp (X := MwZ) (I := fun y => y.r ≤ all.length ∧ drM all x0.out y.r = some y.M ∧ MxO t y.hs t.R.toNat y.M ∧ mxV y.hs = mxV z.hs) (le := fun y => [(4, .pointer (some ⟨brs, 0, none⟩)), (6, .slice x0.A x0.out.length x0.c), (8, .pointer (some ⟨bdr, 0, none⟩)), (13, .slice x2.1 all.length x2.2), (14, .int .i64 y.r)]) (Le := fun y => [.blk brs 102 [.slice none 0 0, .slice none 0 0], .blk bdr 102 [.slice x0.A x0.out.length x0.c, .slice z.A z.hs.length z.c], .own z.A z.c 22 1 z.hs.length (mxV z.hs), mxE 3 y.hs, .own x0.A x0.c 3 1 x0.out.length (enI x0.out), .ro x2.1 5 all.length (encSl all)]) (μ := fun y => all.length - y.r) ⟨0, mustB x0.out, z.hs⟩ ⟨Nat.zero_le _, rfl, hzM, rfl⟩ sbz_ slz_ (fun y hy => ?_)
      obtain ⟨hyR, hyd, hyM, hyV⟩ := hy
      refine sq (h := ?_)
      refine sq (h := ?_)
      refine rg (h := ?_)
      refine wy mv ?_
      refine wy mv ?_
      refine wy lenS ?_
      refine wy lss ?_
      refine nl (h := ?_)
      refine q_seq (h := ?_)
      refine cd (by exact rfl) (fun h9 => ?_) (fun h9 => ?_)
      · skip
        have hyn : y.r < all.length := by have := of_decide_eq_true h9; omega
        obtain ⟨x, hx⟩ : ∃ x, all[y.r]? = some x := ⟨_, List.getElem?_eq_getElem hyn⟩
        have hxe := encSl_at hx
        have hxs : slpB t x = true := hs x (mem_once.1 (hall ▸ List.mem_of_getElem? hx))
        have hst := drM_step hyd hx
        refine skp (h := ?_)
        refine q_seq (h := ?_)
        refine sq (h := ?_)
        refine bk (h := ?_)
        refine sq (h := ?_)
        refine rg (h := ?_)
        refine wy mv ?_
        refine wy mv ?_
        refine wy (ix (A := x2.1) (m := all.length) (hb := by omega)) ?_
        refine wy (ldEW (A := x2.1) (cs := x.cells) (hk := hxe)) ?_
        refine al (h := fun bx => ?_)
        first | refine stA (h := ?_) | refine stEA (h := ?_)
        refine nl (h := ?_)
        refine q_seq (h := ?_)
        refine sq (h := ?_)
        refine sq (h := ?_)
        refine rg (h := ?_)
        refine wy (by first | exact fa | exact faE) ?_
        refine wy (by first | exact ld | exact ldE) ?_
        refine wy eql ?_
        refine nl (h := ?_)
        refine q_seq (h := ?_)
        refine cd (by exact rfl) (fun h10 => ?_) (fun h10 => ?_)
        · skip
          have h5 : x.kind = 5 := of_decide_eq_true h10
          have hst5 : drM all x0.out (y.r + 1) = some y.M := by rw [hst, slipM, if_pos h5]
          refine et (h := ?_)
          refine q_then_exit (h := ?_)
          refine q_blk_hit (h := ?_)
          refine q_seq (h := ?_)
          refine rg (h := ?_)
          refine wy mv ?_
          refine wy addI ?_
          refine wy asg ?_
          refine WL.cut (by repeat (first | exact Cut.nil | apply Cut.hit | apply Cut.miss (by exact rfl))) ?_
          refine nl (h := ?_)
          first
            | (refine rn (x := y) ⟨y.r + 1, u.M, u.hs⟩ ⟨hyn, by dsimp only; rw [hsw, ← hun]; exact huw, huM, huV⟩ (by dsimp only; omega) sbz_ slz_; done)
            | (refine rn (x := y) ⟨y.r + 1, y.M, y.hs⟩ ⟨hyn, hst5, hyM, hyV⟩ (by dsimp only; omega) sbz_ slz_; done)
        · skip
          have h5 : x.kind ≠ 5 := of_decide_eq_false h10
          have hro : 0 ≤ x.round ∧ x.round ≤ t.R - 1 := (match_rng (slp_won hxs h5).2.1).1
          refine skp (h := ?_)
          refine q_seq (h := ?_)
          refine sq (h := ?_)
          refine sq (h := ?_)
          refine rg (h := ?_)
          refine wy asg ?_
          refine WL.cut (by repeat (first | exact Cut.nil | apply Cut.hit | apply Cut.miss (by exact rfl))) ?_
          refine nl (h := ?_)
          refine q_seq (h := ?_)
          refine bk (h := ?_)
          refine lp (X := Nat) (I := fun v => v ≤ y.r ∧ (all.take v).any (sameM x) = false) (le := fun v => [(4, .pointer (some ⟨brs, 0, none⟩)), (6, .slice x0.A x0.out.length x0.c), (8, .pointer (some ⟨bdr, 0, none⟩)), (13, .slice x2.1 all.length x2.2), (14, .int .i64 y.r), (15, .pointer (some ⟨bx, 0, none⟩)), (16, .int .i64 v)]) (Le := fun _ => [.blk bx 54 x.cells, .blk brs 102 [.slice none 0 0, .slice none 0 0], .blk bdr 102 [.slice x0.A x0.out.length x0.c, .slice z.A z.hs.length z.c], .own z.A z.c 22 1 z.hs.length (mxV z.hs), mxE 3 y.hs, .own x0.A x0.c 3 1 x0.out.length (enI x0.out), .ro x2.1 5 all.length (encSl all)]) (μ := fun v => y.r - v) 0 ⟨Nat.zero_le _, rfl⟩ sbz_ slz_ (fun v hv => ?_)
          obtain ⟨hv1, hva⟩ := hv
          refine sq (h := ?_)
          refine sq (h := ?_)
          refine rg (h := ?_)
          refine wy mv ?_
          refine wy mv ?_
          refine wy lss ?_
          refine nl (h := ?_)
          refine q_seq (h := ?_)
          refine cd (by exact rfl) (fun h11 => ?_) (fun h11 => ?_)
          · skip
            have hvn : v < y.r := by have := of_decide_eq_true h11; omega
            obtain ⟨x', hx'⟩ : ∃ x', all[v]? = some x' := ⟨_, List.getElem?_eq_getElem (by omega)⟩
            have hxe' := encSl_at hx'
            refine skp (h := ?_)
            refine q_seq (h := ?_)
            refine sq (h := ?_)
            refine bk (h := ?_)
            refine sq (h := ?_)
            refine rg (h := ?_)
            refine wy mv ?_
            refine wy mv ?_
            refine wy (ix (A := x2.1) (m := all.length) (hb := by omega)) ?_
            refine wy (ldEW (A := x2.1) (cs := x'.cells) (hk := hxe')) ?_
            refine al (h := fun bv => ?_)
            first | refine stA (h := ?_) | refine stEA (h := ?_)
            refine nl (h := ?_)
            refine q_seq (h := ?_)
            refine sq (h := ?_)
            refine rg (h := ?_)
            refine wy (by first | exact fa | exact faE) ?_
            refine wy (by first | exact ld | exact ldE) ?_
            refine wy neq ?_
            refine wy mv ?_
            apply brAnd 6 115 121 (by exact rfl)
            · intro hb12
              refine un (h := ?_)
              refine wy (by first | exact fa | exact faE) ?_
              refine un (h := ?_)
              refine wy (by first | exact ld | exact ldE) ?_
              refine un (h := ?_)
              refine wy (by first | exact fa | exact faE) ?_
              refine un (h := ?_)
              refine wy (by first | exact ld | exact ldE) ?_
              refine un (h := ?_)
              refine wy eql ?_
              refine wy (by first | exact pkT | exact pkF) ?_
              exact mg (by repeat (first | exact trivial | refine ⟨rfl, ?_⟩ | refine ⟨by rw [hb12]; rfl, ?_⟩)) slz_
            · intro hb12
              repeat (first | refine un (h := ?_) | refine sk (h := ?_) | refine WL.y (hy := pkF) (h := ?_) | refine WL.y (hy := pkT) (h := ?_))
              exact mg (by repeat (first | exact trivial | refine ⟨rfl, ?_⟩ | refine ⟨by rw [hb12]; rfl, ?_⟩)) slz_
            refine wy mv ?_
            apply brAnd 6 122 128 (by exact rfl)
            · intro hb13
              refine un (h := ?_)
              refine wy (by first | exact fa | exact faE) ?_
              refine un (h := ?_)
              refine wy (by first | exact ld | exact ldE) ?_
              refine un (h := ?_)
              refine wy (by first | exact fa | exact faE) ?_
              refine un (h := ?_)
              refine wy (by first | exact ld | exact ldE) ?_
              refine un (h := ?_)
              refine wy eql ?_
              refine wy (by first | exact pkT | exact pkF) ?_
              exact mg (by repeat (first | exact trivial | refine ⟨rfl, ?_⟩ | refine ⟨by rw [hb13]; rfl, ?_⟩)) slz_
            · intro hb13
              repeat (first | refine un (h := ?_) | refine sk (h := ?_) | refine WL.y (hy := pkF) (h := ?_) | refine WL.y (hy := pkT) (h := ?_))
              exact mg (by repeat (first | exact trivial | refine ⟨rfl, ?_⟩ | refine ⟨by rw [hb13]; rfl, ?_⟩)) slz_
            refine nl (h := ?_)
            refine q_seq (h := ?_)
            refine cd (by exact rfl) (fun h14 => ?_) (fun h14 => ?_)
            · skip
              have hsm : sameM x x' = true := h14
              have hbad : drM all x0.out (y.r + 1) = none := by rw [hst, slipM, if_neg h5, if_pos (List.any_eq_true.2 ⟨x', List.mem_of_getElem? (show (all.take y.r)[v]? = some x' by rw [List.getElem?_take_of_lt hvn, hx']), hsm⟩)]
              have hno := draw_bad hpv (by rw [← hall]; exact hyn) (hall ▸ hbad)
              refine sq (h := ?_)
              refine WC.nilOwn 3 1 (h := ?_)
              refine WC.nilOwn 22 1 (h := ?_)
              refine WC.mx0 3 (h := ?_)
              refine rg (h := ?_)
              refine wy bd ?_
              first | refine stA (h := ?_) | refine stEA (h := ?_)
              refine wy asg ?_
              refine WL.cut (by repeat (first | exact Cut.nil | apply Cut.hit | apply Cut.miss (by exact rfl))) ?_
              refine nl (h := ?_)
              refine q_seq (h := ?_)
              refine rtn (h := ?_)
              refine q_blk_ret (h := ?_)
              refine q_then_ret (h := ?_)
              refine q_then_ret (h := ?_)
              refine q_blk_ret (h := ?_)
              refine q_then_ret (h := ?_)
              refine q_blk_ret (h := ?_)
              refine q_then_ret (h := ?_)
              refine q_then_ret (h := ?_)
              refine q_blk_ret (h := ?_)
              refine q_then_ret (h := ?_)
              refine q_ret (hR := ?_)
              first
                | exact fun w hS => ⟨⟨false, ⟨[], mustB []⟩, none, 0, [], none, 0⟩, ⟨fun h9 => (by cases h9), fun _ => hno⟩, rfl, hS.sub slz_⟩
                | exact fun w hS => ⟨⟨true, ⟨x0.out, y.M⟩, x0.A, x0.c, y.hs, z.A, z.c⟩, ⟨fun _ => ⟨draw_yes hpv (by rw [← hall, ← hyn]; exact hyd), hpo, hyM⟩, fun h9 => (by cases h9)⟩, by show _ = Ending.returned (.tuple #[.agg #[.slice x0.A x0.out.length x0.c, .slice z.A y.hs.length z.c], .bool true]); rw [hyl]; rfl, by show St _ _ [.own x0.A x0.c 3 1 x0.out.length (enI x0.out), .own z.A z.c 22 1 y.hs.length (mxV y.hs), mxE 3 y.hs]; rw [hyl, hyV]; exact hS.sub slz_⟩
            · skip
              have hsm : sameM x x' = false := h14
              refine skp (h := ?_)
              refine q_blk_norm (h := ?_)
              refine q_seq (h := ?_)
              refine rg (h := ?_)
              refine wy mv ?_
              refine wy addI ?_
              refine wy asg ?_
              refine WL.cut (by repeat (first | exact Cut.nil | apply Cut.hit | apply Cut.miss (by exact rfl))) ?_
              refine nl (h := ?_)
              refine rn (x := v) (v + 1) ⟨hvn, by rw [List.take_add_one, hx', Option.toList_some, List.any_append, hva, List.any_cons, List.any_nil, hsm]; rfl⟩ (by omega) sbz_ slz_
          · skip
            have hvn : v = y.r := by have := of_decide_eq_false h11; omega
            rw [hvn] at hva
            refine et (h := ?_)
            refine q_then_exit (h := ?_)
            refine q_then_exit (h := ?_)
            refine q_blk_hit (h := ?_)
            refine q_seq (h := ?_)
            refine sq (h := ?_)
            refine rg (h := ?_)
            refine wy asg ?_
            refine WL.cut (by repeat (first | exact Cut.nil | apply Cut.hit | apply Cut.miss (by exact rfl))) ?_
            refine nl (h := ?_)
            refine q_seq (h := ?_)
            refine sq (h := ?_)
            refine sq (h := ?_)
            refine rg (h := ?_)
            refine wy asg ?_
            refine WL.cut (by repeat (first | exact Cut.nil | apply Cut.hit | apply Cut.miss (by exact rfl))) ?_
            refine nl (h := ?_)
            refine q_seq (h := ?_)
            refine bk (h := ?_)
            refine lp (X := Nat) (I := fun s => s ≤ x0.out.length) (le := fun s => [(4, .pointer (some ⟨brs, 0, none⟩)), (6, .slice x0.A x0.out.length x0.c), (8, .pointer (some ⟨bdr, 0, none⟩)), (13, .slice x2.1 all.length x2.2), (14, .int .i64 y.r), (15, .pointer (some ⟨bx, 0, none⟩)), (18, .int .i64 (lastIx x0.out x.player s)), (19, .int .i64 s)]) (Le := fun _ => [.blk bx 54 x.cells, .blk brs 102 [.slice none 0 0, .slice none 0 0], .blk bdr 102 [.slice x0.A x0.out.length x0.c, .slice z.A z.hs.length z.c], .own z.A z.c 22 1 z.hs.length (mxV z.hs), mxE 3 y.hs, .own x0.A x0.c 3 1 x0.out.length (enI x0.out), .ro x2.1 5 all.length (encSl all)]) (μ := fun s => x0.out.length - s) 0 (Nat.zero_le _) sbz_ slz_ (fun s hs' => ?_)
            refine sq (h := ?_)
            refine sq (h := ?_)
            refine rg (h := ?_)
            refine wy mv ?_
            refine wy mv ?_
            refine wy lenS ?_
            refine wy lss ?_
            refine nl (h := ?_)
            refine q_seq (h := ?_)
            refine cd (by exact rfl) (fun h15 => ?_) (fun h15 => ?_)
            · skip
              have hsn : s < x0.out.length := by have := of_decide_eq_true h15; omega
              have hse := enI_at (at_getD hsn)
              refine skp (h := ?_)
              refine q_seq (h := ?_)
              refine sq (h := ?_)
              refine bk (h := ?_)
              refine sq (h := ?_)
              refine rgD (by kernel_rfl) [(1000000, .blk bx 54 x.cells), (1000000, .own x0.A x0.c 3 1 x0.out.length (enI x0.out))] (by repeat (first | exact HS.nil | (apply HS.keep; (repeat (first | exact At.here | apply At.there))) | (apply HS.ro; (repeat (first | exact Rds.ro | exact Rds.own | apply Rds.there))))) (h := ?_)
              refine tk 0 (hy := mv) (h := ?_)
              refine tk 1 (hy := mv) (h := ?_)
              refine tk 2 (hy := ix (A := x0.A) (m := x0.out.length) (hb := by omega)) (h := ?_)
              refine tk 3 (hy := ldE (A := x0.A) (hk := hse)) (h := ?_)
              refine tk 4 (hy := (by first | exact fa | exact faE)) (h := ?_)
              refine tk 5 (hy := (by first | exact ld | exact ldE)) (h := ?_)
              refine tk 6 (hy := eql) (h := ?_)
              refine dn (h := ?_)
              refine q_seq (h := ?_)
              refine cd (by exact rfl) (fun h16 => ?_) (fun h16 => ?_)
              · skip
                have hnx : lastIx x0.out x.player (s + 1) = s := by rw [lastIx, if_pos (of_decide_eq_true h16)]
                refine rg (h := ?_)
                refine wy mv ?_
                refine wy asg ?_
                refine WL.cut (by repeat (first | exact Cut.nil | apply Cut.hit | apply Cut.miss (by exact rfl))) ?_
                refine nl (h := ?_)
                refine q_blk_norm (h := ?_)
                refine q_seq (h := ?_)
                refine rg (h := ?_)
                refine wy mv ?_
                refine wy addI ?_
                refine wy asg ?_
                refine WL.cut (by repeat (first | exact Cut.nil | apply Cut.hit | apply Cut.miss (by exact rfl))) ?_
                refine nl (h := ?_)
                refine rn (x := s) (s + 1) hsn (by omega) (by rw [hnx]; repeat (first | exact trivial | refine ⟨rfl, ?_⟩)) slz_
              · skip
                have hnx : lastIx x0.out x.player (s + 1) = lastIx x0.out x.player s := by rw [lastIx, if_neg (of_decide_eq_false h16)]
                refine skp (h := ?_)
                refine q_blk_norm (h := ?_)
                refine q_seq (h := ?_)
                refine rg (h := ?_)
                refine wy mv ?_
                refine wy addI ?_
                refine wy asg ?_
                refine WL.cut (by repeat (first | exact Cut.nil | apply Cut.hit | apply Cut.miss (by exact rfl))) ?_
                refine nl (h := ?_)
                refine rn (x := s) (s + 1) hsn (by omega) (by rw [hnx]; repeat (first | exact trivial | refine ⟨rfl, ?_⟩)) slz_
            · skip
              have hsn : s = x0.out.length := by have := of_decide_eq_false h15; omega
              rw [hsn]
              refine et (h := ?_)
              refine q_then_exit (h := ?_)
              refine q_then_exit (h := ?_)
              refine q_blk_hit (h := ?_)
              refine q_seq (h := ?_)
              refine sq (h := ?_)
              refine sq (h := ?_)
              refine rg (h := ?_)
              refine wy mv ?_
              refine wy lss ?_
              refine wy mv ?_
              apply brOr 10 146 156 (by exact rfl)
              · intro hb17
                have hro : 0 ≤ x.round ∧ x.round ≤ 4 := by have := (match_rng (slp_won hxs h5).2.1).1; omega
                refine un (h := ?_)
                refine wy mv ?_
                refine un (h := ?_)
                refine wy (by first | exact fa | exact faE) ?_
                refine un (h := ?_)
                refine wy (by first | exact ld | exact ldE) ?_
                refine un (h := ?_)
                refine wy addI ?_
                refine un (h := ?_)
                refine wy cvU ?_
                refine un (h := ?_)
                refine wy (shrI (h0 := by omega)) ?_
                refine un (h := ?_)
                refine wy (by first | exact fa | exact faE) ?_
                refine un (h := ?_)
                refine wy (by first | exact ld | exact ldE) ?_
                refine un (h := ?_)
                refine wy neq ?_
                refine wy (by first | exact pkT | exact pkF) ?_
                exact mg (by repeat (first | exact trivial | refine ⟨rfl, ?_⟩ | refine ⟨by rw [hb17]; rfl, ?_⟩)) slz_
              · intro hb17
                repeat (first | refine un (h := ?_) | refine sk (h := ?_) | refine WL.y (hy := pkF) (h := ?_) | refine WL.y (hy := pkT) (h := ?_))
                exact mg (by repeat (first | exact trivial | refine ⟨rfl, ?_⟩ | refine ⟨by rw [hb17]; rfl, ?_⟩)) slz_
              refine nl (h := ?_)
              refine q_seq (h := ?_)
              refine cd (by exact rfl) (fun h18 => ?_) (fun h18 => ?_)
              · skip
                have hbad : drM all x0.out (y.r + 1) = none := by
                  rw [hst, slipM, if_neg h5, if_neg (by rw [hva]; decide), if_pos]
                  have h9 := h18
                  rw [Bool.or_eq_true, decide_eq_true_eq, Bool.not_eq_true', decide_eq_false_iff_not] at h9
                  exact h9
                have hno := draw_bad hpv (by rw [← hall]; exact hyn) (hall ▸ hbad)
                refine sq (h := ?_)
                refine WC.nilOwn 3 1 (h := ?_)
                refine WC.nilOwn 22 1 (h := ?_)
                refine WC.mx0 3 (h := ?_)
                refine rg (h := ?_)
                refine wy bd ?_
                first | refine stA (h := ?_) | refine stEA (h := ?_)
                refine wy asg ?_
                refine WL.cut (by repeat (first | exact Cut.nil | apply Cut.hit | apply Cut.miss (by exact rfl))) ?_
                refine nl (h := ?_)
                refine q_seq (h := ?_)
                refine rtn (h := ?_)
                refine q_then_ret (h := ?_)
                refine q_blk_ret (h := ?_)
                refine q_then_ret (h := ?_)
                refine q_then_ret (h := ?_)
                refine q_blk_ret (h := ?_)
                refine q_then_ret (h := ?_)
                refine q_ret (hR := ?_)
                first
                  | exact fun w hS => ⟨⟨false, ⟨[], mustB []⟩, none, 0, [], none, 0⟩, ⟨fun h9 => (by cases h9), fun _ => hno⟩, rfl, hS.sub slz_⟩
                  | exact fun w hS => ⟨⟨true, ⟨x0.out, y.M⟩, x0.A, x0.c, y.hs, z.A, z.c⟩, ⟨fun _ => ⟨draw_yes hpv (by rw [← hall, ← hyn]; exact hyd), hpo, hyM⟩, fun h9 => (by cases h9)⟩, by show _ = Ending.returned (.tuple #[.agg #[.slice x0.A x0.out.length x0.c, .slice z.A y.hs.length z.c], .bool true]); rw [hyl]; rfl, by show St _ _ [.own x0.A x0.c 3 1 x0.out.length (enI x0.out), .own z.A z.c 22 1 y.hs.length (mxV y.hs), mxE 3 y.hs]; rw [hyl, hyV]; exact hS.sub slz_⟩
              · skip
                have h156 := h18
                rw [Bool.or_eq_false_iff, decide_eq_false_iff_not, Bool.not_eq_false', decide_eq_true_eq] at h156
                obtain ⟨a, ha, hla, hax⟩ := (lastIx_ok x0.out x.player x0.out.length).resolve_left (by omega)
                have hsw : drM all x0.out (y.r + 1) = winM y.M a x.player (x.round.toNat + 1) := by rw [hst, slipM, if_neg h5, if_neg (by rw [hva]; decide), if_neg (fun h9 => h9.elim h156.1 fun h8 => h8 h156.2), hla]; rfl
                rw [hla]
                refine skp (h := ?_)
                refine q_seq (h := ?_)
                refine sq (h := ?_)
                refine rg (h := ?_)
                refine wy asg ?_
                refine WL.cut (by repeat (first | exact Cut.nil | apply Cut.hit | apply Cut.miss (by exact rfl))) ?_
                refine nl (h := ?_)
                refine q_seq (h := ?_)
                refine bk (h := ?_)
                refine lp (X := MwZ) (I := fun u => u.r ≤ x.round.toNat + 1 ∧ winM y.M a x.player u.r = some u.M ∧ MxO t u.hs t.R.toNat u.M ∧ mxV u.hs = mxV z.hs) (le := fun u => [(4, .pointer (some ⟨brs, 0, none⟩)), (6, .slice x0.A x0.out.length x0.c), (8, .pointer (some ⟨bdr, 0, none⟩)), (13, .slice x2.1 all.length x2.2), (14, .int .i64 y.r), (15, .pointer (some ⟨bx, 0, none⟩)), (18, .int .i64 a), (20, .int .i64 u.r)]) (Le := fun u => [.blk bx 54 x.cells, .blk brs 102 [.slice none 0 0, .slice none 0 0], .blk bdr 102 [.slice x0.A x0.out.length x0.c, .slice z.A z.hs.length z.c], .own z.A z.c 22 1 z.hs.length (mxV z.hs), mxE 3 u.hs, .own x0.A x0.c 3 1 x0.out.length (enI x0.out), .ro x2.1 5 all.length (encSl all)]) (μ := fun u => x.round.toNat + 1 - u.r) ⟨0, y.M, y.hs⟩ ⟨Nat.zero_le _, rfl, hyM, hyV⟩ sbz_ slz_ (fun u hu => ?_)
                obtain ⟨huR, huw, huM, huV⟩ := hu
                refine sq (h := ?_)
                refine sq (h := ?_)
                refine rg (h := ?_)
                refine wy mv ?_
                refine wy (by first | exact fa | exact faE) ?_
                refine wy (by first | exact ld | exact ldE) ?_
                refine wy leq ?_
                refine nl (h := ?_)
                refine q_seq (h := ?_)
                refine cd (by exact rfl) (fun h19 => ?_) (fun h19 => ?_)
                · skip
                  have hun : u.r ≤ x.round.toNat := by have := of_decide_eq_true h19; omega
                  obtain ⟨p, hpe⟩ : ∃ p, p = a / 2 ^ (u.r + 1) := ⟨_, rfl⟩
                  have hpl : p < szN t u.r := by rw [hpe]; exact slip_lt ht (by omega) (by omega)
                  obtain ⟨RA, Rc, hr0, hrv, hrd⟩ := huM.at_ (r := u.r) (by omega)
                  rw [huV] at hrv
                  have hpv2 : (mI (rowL t u.M u.r))[p]? = some [.int .i64 (u.M u.r p)] := by rw [← rowL_get u.M hpl]; exact mI_at (by rw [rowL_len]; exact hpl)
                  refine skp (h := ?_)
                  refine q_seq (h := ?_)
                  refine sq (h := ?_)
                  refine bk (h := ?_)
                  refine sq (h := ?_)
                  refine rg (h := ?_)
                  refine wy mv ?_
                  refine wy mv ?_
                  refine wy addI ?_
                  refine wy cvU ?_
                  refine wy (shrI (h0 := by omega)) ?_
                  refine wy asg ?_
                  refine WL.cut (by repeat (first | exact Cut.nil | apply Cut.hit | apply Cut.miss (by exact rfl))) ?_
                  rw [show ((u.r : Int) + 1).toNat = u.r + 1 by omega, div_cast, ← hpe]
                  refine nl (h := ?_)
                  refine q_seq (h := ?_)
                  refine sq (h := ?_)
                  refine sq (h := ?_)
                  refine rgD (by kernel_rfl) [(1000000, .blk bdr 102 [.slice x0.A x0.out.length x0.c, .slice z.A z.hs.length z.c]), (1000000, .own z.A z.c 22 1 z.hs.length (mxV z.hs)), (1000000, mxE 3 u.hs), (1000000, .blk bx 54 x.cells)] (by repeat (first | exact HS.nil | (apply HS.keep; (repeat (first | exact At.here | apply At.there))) | (apply HS.ro; (repeat (first | exact Rds.ro | exact Rds.own | apply Rds.there))))) (h := ?_)
                  refine tk 0 (hy := (by first | exact fa | exact faE)) (h := ?_)
                  refine tk 1 (hy := (by first | exact ld | exact ldE)) (h := ?_)
                  refine tk 2 (hy := mv) (h := ?_)
                  refine tk 3 (hy := ix (A := z.A) (m := z.hs.length) (hb := by omega)) (h := ?_)
                  refine tk 4 (hy := ldE (A := z.A) (hk := hrv)) (h := ?_)
                  refine tk 5 (hy := mv) (h := ?_)
                  refine tk 6 (hy := ix (A := RA) (m := szN t u.r) (hb := by omega) (hr := by repeat (first | exact Rds.any (hrd 3) | apply Rds.there))) (h := ?_)
                  refine tk 7 (hy := ldE (A := RA) (hr := by repeat (first | exact Rds.any (hrd 3) | apply Rds.there)) (hk := hpv2)) (h := ?_)
                  refine tk 8 (hy := neq) (h := ?_)
                  refine tk 9 (hy := mv) (h := ?_)
                  refine brH (g := 178) (by exact rfl) (fun hb20 => ?_) (fun hb20 => ?_)
                  · skip
                    have hg178 : ¬ u.M u.r p = -2 := of_decide_eq_false (by rwa [Bool.not_eq_true'] at hb20)
                    refine tk 10 (hy := (by first | exact fa | exact faE)) (h := ?_)
                    refine tk 11 (hy := (by first | exact ld | exact ldE)) (h := ?_)
                    refine tk 12 (hy := mv) (h := ?_)
                    refine tk 13 (hy := ix (A := z.A) (m := z.hs.length) (hb := by omega)) (h := ?_)
                    refine tk 14 (hy := ldE (A := z.A) (hk := hrv)) (h := ?_)
                    refine tk 15 (hy := mv) (h := ?_)
                    refine tk 16 (hy := ix (A := RA) (m := szN t u.r) (hb := by omega) (hr := by repeat (first | exact Rds.any (hrd 3) | apply Rds.there))) (h := ?_)
                    refine tk 17 (hy := ldE (A := RA) (hr := by repeat (first | exact Rds.any (hrd 3) | apply Rds.there)) (hk := hpv2)) (h := ?_)
                    refine tk 18 (hy := (by first | exact fa | exact faE)) (h := ?_)
                    refine tk 19 (hy := (by first | exact ld | exact ldE)) (h := ?_)
                    refine tk 20 (hy := neq) (h := ?_)
                    refine tk 21 (hy := (by first | exact pkT | exact pkF)) (h := ?_)
                    refine dn (h := ?_)
                    refine q_seq (h := ?_)
                    refine cd (by exact rfl) (fun h21 => ?_) (fun h21 => ?_)
                    · skip
                      have hbad : drM all x0.out (y.r + 1) = none := by
                        rw [hsw]
                        refine winM_none (winM_bad huw ?_) _ (by omega)
                        rw [← hpe]
                        have h9 := h21
                        exact ⟨hg178, of_decide_eq_false (by rwa [Bool.not_eq_true'] at h9)⟩
                      have hno := draw_bad hpv (by rw [← hall]; exact hyn) (hall ▸ hbad)
                      refine sq (h := ?_)
                      refine WC.nilOwn 3 1 (h := ?_)
                      refine WC.nilOwn 22 1 (h := ?_)
                      refine WC.mx0 3 (h := ?_)
                      refine rg (h := ?_)
                      refine wy bd ?_
                      first | refine stA (h := ?_) | refine stEA (h := ?_)
                      refine wy asg ?_
                      refine WL.cut (by repeat (first | exact Cut.nil | apply Cut.hit | apply Cut.miss (by exact rfl))) ?_
                      refine nl (h := ?_)
                      refine q_seq (h := ?_)
                      refine rtn (h := ?_)
                      refine q_then_ret (h := ?_)
                      refine q_blk_ret (h := ?_)
                      refine q_then_ret (h := ?_)
                      refine q_then_ret (h := ?_)
                      refine q_blk_ret (h := ?_)
                      refine q_blk_ret (h := ?_)
                      refine q_then_ret (h := ?_)
                      refine q_then_ret (h := ?_)
                      refine q_blk_ret (h := ?_)
                      refine q_then_ret (h := ?_)
                      refine q_ret (hR := ?_)
                      first
                        | exact fun w hS => ⟨⟨false, ⟨[], mustB []⟩, none, 0, [], none, 0⟩, ⟨fun h9 => (by cases h9), fun _ => hno⟩, rfl, hS.sub slz_⟩
                        | exact fun w hS => ⟨⟨true, ⟨x0.out, y.M⟩, x0.A, x0.c, y.hs, z.A, z.c⟩, ⟨fun _ => ⟨draw_yes hpv (by rw [← hall, ← hyn]; exact hyd), hpo, hyM⟩, fun h9 => (by cases h9)⟩, by show _ = Ending.returned (.tuple #[.agg #[.slice x0.A x0.out.length x0.c, .slice z.A y.hs.length z.c], .bool true]); rw [hyl]; rfl, by show St _ _ [.own x0.A x0.c 3 1 x0.out.length (enI x0.out), .own z.A z.c 22 1 y.hs.length (mxV y.hs), mxE 3 y.hs]; rw [hyl, hyV]; exact hS.sub slz_⟩
                    · skip
                      have hux := winM_next huw (by rw [← hpe]; first | exact fun h9 => h9.1 hn178 | exact fun h9 => absurd (show (!decide (u.M u.r p = x.player)) = false by assumption) (by rw [decide_eq_false h9.2]; decide))
                      rw [← hpe] at hux
                      have huM' := huM.set hr0 hpl x.player
                      have huV' := mxV_set hr0 (ys := (rowL t u.M u.r).set p x.player) (by rw [List.length_set])
                      refine skp (h := ?_)
                      refine q_seq (h := ?_)
                      refine rgD (by kernel_rfl) [(9, mxE 3 u.hs), (1000000, .blk bdr 102 [.slice x0.A x0.out.length x0.c, .slice z.A z.hs.length z.c]), (1000000, .own z.A z.c 22 1 z.hs.length (mxV z.hs)), (1000000, .blk bx 54 x.cells)] (by repeat (first | exact HS.nil | (apply HS.keep; (repeat (first | exact At.here | apply At.there))) | (apply HS.ro; (repeat (first | exact Rds.ro | exact Rds.own | apply Rds.there))))) (h := ?_)
                      refine tk 0 (hy := (by first | exact fa | exact faE)) (h := ?_)
                      refine tk 1 (hy := (by first | exact ld | exact ldE)) (h := ?_)
                      refine tk 2 (hy := mv) (h := ?_)
                      refine tk 3 (hy := ix (A := z.A) (m := z.hs.length) (hb := by omega)) (h := ?_)
                      refine tk 4 (hy := ldE (A := z.A) (hk := hrv)) (h := ?_)
                      refine tk 5 (hy := mv) (h := ?_)
                      refine tk 6 (hy := (by first | exact fa | exact faE)) (h := ?_)
                      refine tk 7 (hy := (by first | exact ld | exact ldE)) (h := ?_)
                      refine tk 8 (hy := ix (A := RA) (m := szN t u.r) (hb := by omega) (hr := by repeat (first | exact Rds.any (hrd 3) | apply Rds.there))) (h := ?_)
                      refine one 9 (h := ?_)
                      refine WL.mxAt (hs := u.hs) hr0 atz_ ?_
                      refine stE (A := RA) (k := p) (j := 0) (hk := hpv2) (h := ?_)
                      rw [show (mI (rowL t u.M u.r)).set p ([Value.int .i64 (u.M u.r p)].set 0 (.int .i64 x.player)) = mI ((rowL t u.M u.r).set p x.player) from mI_set _ _ _]
                      refine WL.mxPut (hs := u.hs) RA Rc ((rowL t u.M u.r).set p x.player) hr0 atz_ atz_ (by rw [List.length_set]) rfl ?_
                      refine nx (h := ?_)
                      refine dn (h := ?_)
                      refine q_blk_norm (h := ?_)
                      refine q_seq (h := ?_)
                      refine rg (h := ?_)
                      refine wy mv ?_
                      refine wy addI ?_
                      refine wy asg ?_
                      refine WL.cut (by repeat (first | exact Cut.nil | apply Cut.hit | apply Cut.miss (by exact rfl))) ?_
                      refine nl (h := ?_)
                      refine rn (x := u) ⟨u.r + 1, upM u.M u.r p x.player, u.hs.set u.r (RA, Rc, (rowL t u.M u.r).set p x.player)⟩ ⟨by dsimp only; omega, hux, huM', huV'.trans huV⟩ (by dsimp only; omega) sbz_ slz_
                  · skip
                    have hn178 : u.M u.r p = -2 := of_decide_eq_true (by rwa [Bool.not_eq_false'] at hb20)
                    refine tkS 10 (h := ?_)
                    refine tkS 11 (h := ?_)
                    refine tkS 12 (h := ?_)
                    refine tkS 13 (h := ?_)
                    refine tkS 14 (h := ?_)
                    refine tkS 15 (h := ?_)
                    refine tkS 16 (h := ?_)
                    refine tkS 17 (h := ?_)
                    refine tkS 18 (h := ?_)
                    refine tkS 19 (h := ?_)
                    refine tkS 20 (h := ?_)
                    refine tk 21 (hy := (by first | exact pkT | exact pkF)) (h := ?_)
                    refine dn (h := ?_)
                    refine q_seq (h := ?_)
                    refine cdF (h := ?_)
                    have hux := winM_next huw (by rw [← hpe]; first | exact fun h9 => h9.1 hn178 | exact fun h9 => absurd (show (!decide (u.M u.r p = x.player)) = false by assumption) (by rw [decide_eq_false h9.2]; decide))
                    rw [← hpe] at hux
                    have huM' := huM.set hr0 hpl x.player
                    have huV' := mxV_set hr0 (ys := (rowL t u.M u.r).set p x.player) (by rw [List.length_set])
                    refine skp (h := ?_)
                    refine q_seq (h := ?_)
                    refine rgD (by kernel_rfl) [(9, mxE 3 u.hs), (1000000, .blk bdr 102 [.slice x0.A x0.out.length x0.c, .slice z.A z.hs.length z.c]), (1000000, .own z.A z.c 22 1 z.hs.length (mxV z.hs)), (1000000, .blk bx 54 x.cells)] (by repeat (first | exact HS.nil | (apply HS.keep; (repeat (first | exact At.here | apply At.there))) | (apply HS.ro; (repeat (first | exact Rds.ro | exact Rds.own | apply Rds.there))))) (h := ?_)
                    refine tk 0 (hy := (by first | exact fa | exact faE)) (h := ?_)
                    refine tk 1 (hy := (by first | exact ld | exact ldE)) (h := ?_)
                    refine tk 2 (hy := mv) (h := ?_)
                    refine tk 3 (hy := ix (A := z.A) (m := z.hs.length) (hb := by omega)) (h := ?_)
                    refine tk 4 (hy := ldE (A := z.A) (hk := hrv)) (h := ?_)
                    refine tk 5 (hy := mv) (h := ?_)
                    refine tk 6 (hy := (by first | exact fa | exact faE)) (h := ?_)
                    refine tk 7 (hy := (by first | exact ld | exact ldE)) (h := ?_)
                    refine tk 8 (hy := ix (A := RA) (m := szN t u.r) (hb := by omega) (hr := by repeat (first | exact Rds.any (hrd 3) | apply Rds.there))) (h := ?_)
                    refine one 9 (h := ?_)
                    refine WL.mxAt (hs := u.hs) hr0 atz_ ?_
                    refine stE (A := RA) (k := p) (j := 0) (hk := hpv2) (h := ?_)
                    rw [show (mI (rowL t u.M u.r)).set p ([Value.int .i64 (u.M u.r p)].set 0 (.int .i64 x.player)) = mI ((rowL t u.M u.r).set p x.player) from mI_set _ _ _]
                    refine WL.mxPut (hs := u.hs) RA Rc ((rowL t u.M u.r).set p x.player) hr0 atz_ atz_ (by rw [List.length_set]) rfl ?_
                    refine nx (h := ?_)
                    refine dn (h := ?_)
                    refine q_blk_norm (h := ?_)
                    refine q_seq (h := ?_)
                    refine rg (h := ?_)
                    refine wy mv ?_
                    refine wy addI ?_
                    refine wy asg ?_
                    refine WL.cut (by repeat (first | exact Cut.nil | apply Cut.hit | apply Cut.miss (by exact rfl))) ?_
                    refine nl (h := ?_)
                    refine rn (x := u) ⟨u.r + 1, upM u.M u.r p x.player, u.hs.set u.r (RA, Rc, (rowL t u.M u.r).set p x.player)⟩ ⟨by dsimp only; omega, hux, huM', huV'.trans huV⟩ (by dsimp only; omega) sbz_ slz_
                · skip
                  have hun : u.r = x.round.toNat + 1 := by have := of_decide_eq_false h19; omega
                  refine et (h := ?_)
                  refine q_then_exit (h := ?_)
                  refine q_then_exit (h := ?_)
                  refine q_blk_hit (h := ?_)
                  refine q_blk_norm (h := ?_)
                  refine q_seq (h := ?_)
                  refine rg (h := ?_)
                  refine wy mv ?_
                  refine wy addI ?_
                  refine wy asg ?_
                  refine WL.cut (by repeat (first | exact Cut.nil | apply Cut.hit | apply Cut.miss (by exact rfl))) ?_
                  refine nl (h := ?_)
                  first
                    | (refine rn (x := y) ⟨y.r + 1, u.M, u.hs⟩ ⟨hyn, by dsimp only; rw [hsw, ← hun]; exact huw, huM, huV⟩ (by dsimp only; omega) sbz_ slz_; done)
                    | (refine rn (x := y) ⟨y.r + 1, y.M, y.hs⟩ ⟨hyn, hst5, hyM, hyV⟩ (by dsimp only; omega) sbz_ slz_; done)
      · skip
        have hyn : y.r = all.length := by have := of_decide_eq_false h9; omega
        have hyl : y.hs.length = z.hs.length := by rw [hyM.n, hzl]
        refine et (h := ?_)
        refine q_then_exit (h := ?_)
        refine q_then_exit (h := ?_)
        refine q_blk_hit (h := ?_)
        refine q_seq (h := ?_)
        refine sq (h := ?_)
        refine rg (h := ?_)
        refine wy (by first | exact ldA | exact ldEA) ?_
        first | refine stA (h := ?_) | refine stEA (h := ?_)
        refine wy asg ?_
        refine WL.cut (by repeat (first | exact Cut.nil | apply Cut.hit | apply Cut.miss (by exact rfl))) ?_
        refine nl (h := ?_)
        refine q_seq (h := ?_)
        refine rtn (h := ?_)
        refine q_ret (hR := ?_)
        first
          | exact fun w hS => ⟨⟨false, ⟨[], mustB []⟩, none, 0, [], none, 0⟩, ⟨fun h9 => (by cases h9), fun _ => hno⟩, rfl, hS.sub slz_⟩
          | exact fun w hS => ⟨⟨true, ⟨x0.out, y.M⟩, x0.A, x0.c, y.hs, z.A, z.c⟩, ⟨fun _ => ⟨draw_yes hpv (by rw [← hall, ← hyn]; exact hyd), hpo, hyM⟩, fun h9 => (by cases h9)⟩, by show _ = Ending.returned (.tuple #[.agg #[.slice x0.A x0.out.length x0.c, .slice z.A y.hs.length z.c], .bool true]); rw [hyl]; rfl, by show St _ _ [.own x0.A x0.c 3 1 x0.out.length (enI x0.out), .own z.A z.c 22 1 y.hs.length (mxV y.hs), mxE 3 y.hs]; rw [hyl, hyV]; exact hS.sub slz_⟩
end Go.Proofs.YtmlhnajgiopfgaaGreat

namespace Go.Proofs.YtmlhnajgiopfgaaGreat
open Go Go.RowKit

def ChkP (t : Tre) (l : List Sl) (e : Int) : Prop := (e = 0 → ∃ d, Agr t l d) ∧ ∀ d, Agr t l d → e = 0
theorem tre_le {t : Tre} (ht : TOk t) : t.sl.length ≤ 32 := by
  have := ht.r
  rw [ht.n]; exact Nat.le_trans (Nat.pow_le_pow_right (by omega) (show t.R.toNat ≤ 5 by omega)) (by decide)
set_option maxRecDepth 100000 in
set_option maxHeartbeats 1000000 in
theorem C_ref7_Check (t : Tre) (l : List Sl) (A : Option Addr) (c : Nat) (hn : t.sl.length ≤ 1000000) (hl : l.length ≤ 1000000) (w : World) (h : Rd w t.A 1 t.sl.length (enI t.sl)) (hL : Rd w A 5 l.length (encSl l)) :
    CR Tryz.prog 13 [t.val, .slice A l.length c] w (ChkP t l) (fun e => .int .i64 e) (fun _ => []) := by
  refine ⟨en Tryz.func13 Tryz.ntmps13 (((St.init w).share (e := .ro t.A 1 t.sl.length (enI t.sl)) h rfl rfl rfl).share (e := .ro A 5 l.length (encSl l)) hL rfl rfl rfl) (h := fun F => ?_)⟩
  refine sq (h := ?_)
  refine rg (h := ?_)
  refine bxA (h := fun b0 => ?_)
  refine wy asg ?_
  refine WL.cut (by repeat (first | exact Cut.nil | apply Cut.hit | apply Cut.miss (by exact rfl))) ?_
  refine nl (h := ?_)
  refine q_seq (h := ?_)
  refine sq (h := ?_)
  refine sq (h := ?_)
  refine rg (h := ?_)
  refine wy (by first | exact ldA | exact ldEA) ?_
  refine cl0 (hc := fun w hS => C_ref7_IsTree t hn w (hS.get rdz_)) (h := ?_)
  refine wy notB ?_
  refine nl (h := ?_)
  refine q_seq (h := ?_)
  refine cd (by exact rfl) (fun h0 => ?_) (fun h0 => ?_)
  · skip
    have hno : ∀ d, ¬ Agr t l d := fun d hd => by
      have h9 := h0
      rw [tokB_iff.2 hd.tr] at h9
      cases h9
    refine sq (h := ?_)
    refine rg (h := ?_)
    refine wy asg ?_
    refine WL.cut (by repeat (first | exact Cut.nil | apply Cut.hit | apply Cut.miss (by exact rfl))) ?_
    refine nl (h := ?_)
    refine q_seq (h := ?_)
    refine rtn (h := ?_)
    refine q_then_ret (h := ?_)
    refine q_ret (hR := ?_)
    first
      | exact fun w hS => ⟨70, ⟨fun h9 => (by cases h9), fun d hd => absurd hd (hno d)⟩, rfl, hS.sub .nil⟩
      | exact fun w hS => ⟨71, ⟨fun h9 => (by cases h9), fun d hd => absurd hd (hno d)⟩, rfl, hS.sub .nil⟩
      | exact fun w hS => ⟨72, ⟨fun h9 => (by cases h9), fun d hd => absurd hd (hno d)⟩, rfl, hS.sub .nil⟩
      | exact fun w hS => ⟨0, ⟨fun _ => ⟨_, hyes⟩, fun _ _ => rfl⟩, rfl, hS.sub .nil⟩
  · skip
    have ht : TOk t := tokB_iff.1 (by rwa [Bool.not_eq_false'] at h0)
    have hn32 := tre_le ht
    refine skp (h := ?_)
    refine q_seq (h := ?_)
    refine sq (h := ?_)
    refine sq (h := ?_)
    refine rg (h := ?_)
    refine wy mv ?_
    refine wy lenS ?_
    refine wy gtr ?_
    refine nl (h := ?_)
    refine q_seq (h := ?_)
    refine cd (by exact rfl) (fun h1 => ?_) (fun h1 => ?_)
    · skip
      have hno : ∀ d, ¬ Agr t l d := fun d hd => by
        have h9 := of_decide_eq_true h1
        have := hd.n
        omega
      refine sq (h := ?_)
      refine rg (h := ?_)
      refine wy asg ?_
      refine WL.cut (by repeat (first | exact Cut.nil | apply Cut.hit | apply Cut.miss (by exact rfl))) ?_
      refine nl (h := ?_)
      refine q_seq (h := ?_)
      refine rtn (h := ?_)
      refine q_then_ret (h := ?_)
      refine q_ret (hR := ?_)
      first
        | exact fun w hS => ⟨70, ⟨fun h9 => (by cases h9), fun d hd => absurd hd (hno d)⟩, rfl, hS.sub .nil⟩
        | exact fun w hS => ⟨71, ⟨fun h9 => (by cases h9), fun d hd => absurd hd (hno d)⟩, rfl, hS.sub .nil⟩
        | exact fun w hS => ⟨72, ⟨fun h9 => (by cases h9), fun d hd => absurd hd (hno d)⟩, rfl, hS.sub .nil⟩
        | exact fun w hS => ⟨0, ⟨fun _ => ⟨_, hyes⟩, fun _ _ => rfl⟩, rfl, hS.sub .nil⟩
    · skip
      have hl60 : l.length ≤ 60 := by have := of_decide_eq_false h1; omega
      refine skp (h := ?_)
      refine q_seq (h := ?_)
      refine sq (h := ?_)
      refine sq (h := ?_)
      refine rg (h := ?_)
      refine wy asg ?_
      refine WL.cut (by repeat (first | exact Cut.nil | apply Cut.hit | apply Cut.miss (by exact rfl))) ?_
      refine nl (h := ?_)
      refine q_seq (h := ?_)
      refine bk (h := ?_)
      refine lp (X := Nat) (I := fun k => k ≤ l.length ∧ ∀ x ∈ l.take k, slpB t x = true) (le := fun k => [(1, .slice A l.length c), (2, .pointer (some ⟨b0, 0, none⟩)), (5, .int .i64 k)]) (Le := fun _ => [.blk b0 24 t.cells, .ro A 5 l.length (encSl l), .ro t.A 1 t.sl.length (enI t.sl)]) (μ := fun k => l.length - k) 0 ⟨Nat.zero_le _, fun x hx => (by cases hx)⟩ sbz_ slz_ (fun k hk => ?_)
      obtain ⟨hk1, hk2⟩ := hk
      refine sq (h := ?_)
      refine sq (h := ?_)
      refine rg (h := ?_)
      refine wy mv ?_
      refine wy mv ?_
      refine wy lenS ?_
      refine wy lss ?_
      refine nl (h := ?_)
      refine q_seq (h := ?_)
      refine cd (by exact rfl) (fun h2 => ?_) (fun h2 => ?_)
      · skip
        have hkn : k < l.length := by have := of_decide_eq_true h2; omega
        obtain ⟨x, hx⟩ : ∃ x, l[k]? = some x := ⟨_, List.getElem?_eq_getElem hkn⟩
        have hxe := encSl_at hx
        refine skp (h := ?_)
        refine q_seq (h := ?_)
        refine sq (h := ?_)
        refine bk (h := ?_)
        refine sq (h := ?_)
        refine rgD (by kernel_rfl) [(1000000, .blk b0 24 t.cells), (1000000, .ro A 5 l.length (encSl l)), (1000000, .ro t.A 1 t.sl.length (enI t.sl))] (by repeat (first | exact HS.nil | (apply HS.keep; (repeat (first | exact At.here | apply At.there))) | (apply HS.ro; (repeat (first | exact Rds.ro | exact Rds.own | apply Rds.there))))) (h := ?_)
        refine tk 0 (hy := (by first | exact ldA | exact ldEA)) (h := ?_)
        refine tk 1 (hy := mv) (h := ?_)
        refine tk 2 (hy := mv) (h := ?_)
        refine tk 3 (hy := ix (A := A) (m := l.length) (hb := by omega)) (h := ?_)
        refine tk 4 (hy := ldEW (A := A) (cs := x.cells) (hk := hxe)) (h := ?_)
        refine one 5 (h := ?_)
        refine cl0 (hc := fun w hS => C_ref7_isSlip t x ht (by omega) w (hS.get rdz_)) (h := ?_)
        refine nx (h := ?_)
        refine tk 6 (hy := notB) (h := ?_)
        refine dn (h := ?_)
        refine q_seq (h := ?_)
        refine cd (by exact rfl) (fun h3 => ?_) (fun h3 => ?_)
        · skip
          have hno : ∀ d, ¬ Agr t l d := fun d hd => by
            have h9 := h3
            rw [hd.s x (List.mem_of_getElem? hx)] at h9
            cases h9
          refine sq (h := ?_)
          refine rg (h := ?_)
          refine wy asg ?_
          refine WL.cut (by repeat (first | exact Cut.nil | apply Cut.hit | apply Cut.miss (by exact rfl))) ?_
          refine nl (h := ?_)
          refine q_seq (h := ?_)
          refine rtn (h := ?_)
          refine q_blk_ret (h := ?_)
          refine q_then_ret (h := ?_)
          refine q_then_ret (h := ?_)
          refine q_blk_ret (h := ?_)
          refine q_then_ret (h := ?_)
          refine q_ret (hR := ?_)
          first
            | exact fun w hS => ⟨70, ⟨fun h9 => (by cases h9), fun d hd => absurd hd (hno d)⟩, rfl, hS.sub .nil⟩
            | exact fun w hS => ⟨71, ⟨fun h9 => (by cases h9), fun d hd => absurd hd (hno d)⟩, rfl, hS.sub .nil⟩
            | exact fun w hS => ⟨72, ⟨fun h9 => (by cases h9), fun d hd => absurd hd (hno d)⟩, rfl, hS.sub .nil⟩
            | exact fun w hS => ⟨0, ⟨fun _ => ⟨_, hyes⟩, fun _ _ => rfl⟩, rfl, hS.sub .nil⟩
        · skip
          have hxs : slpB t x = true := by rwa [Bool.not_eq_false'] at h3
          refine skp (h := ?_)
          refine q_blk_norm (h := ?_)
          refine q_seq (h := ?_)
          refine rg (h := ?_)
          refine wy mv ?_
          refine wy addI ?_
          refine wy asg ?_
          refine WL.cut (by repeat (first | exact Cut.nil | apply Cut.hit | apply Cut.miss (by exact rfl))) ?_
          refine nl (h := ?_)
          refine rn (x := k) (k + 1) ⟨hkn, fun x' hx' => by
            rw [List.take_add_one, hx, List.mem_append] at hx'
            rcases hx' with hx' | hx'
            · exact hk2 x' hx'
            · rw [List.mem_singleton.1 hx']; exact hxs⟩ (by omega) sbz_ slz_
      · skip
        have hkn : k = l.length := by have := of_decide_eq_false h2; omega
        rw [hkn, List.take_length] at hk2
        have hall := hk2
        refine et (h := ?_)
        refine q_then_exit (h := ?_)
        refine q_then_exit (h := ?_)
        refine q_blk_hit (h := ?_)
        refine q_seq (h := ?_)
        refine sq (h := ?_)
        refine sq (h := ?_)
        refine rg (h := ?_)
        refine wy (by first | exact ldA | exact ldEA) ?_
        refine wy mv ?_
        refine cl (hc := fun w hS => C_ref7_draw t l A c ht hall (by omega) w (hS.get rdz_) (hS.get rdz_)) (h := fun x0 hx0 => ?_)
        refine wy mv ?_
        refine wy ex ?_
        refine wy ex ?_
        refine al (h := fun b1 => ?_)
        first | refine stA (h := ?_) | refine stEA (h := ?_)
        refine wy asg ?_
        refine nl (h := ?_)
        refine q_seq (h := ?_)
        refine sq (h := ?_)
        refine rg (h := ?_)
        refine wy mv ?_
        refine wy notB ?_
        refine nl (h := ?_)
        refine q_seq (h := ?_)
        refine cd (by exact rfl) (fun h4 => ?_) (fun h4 => ?_)
        · skip
          have hno : ∀ d, ¬ Agr t l d := fun d hd => by
            have h9 := hx0.2 (by rwa [Bool.not_eq_true'] at h4)
            rw [hd.d] at h9
            cases h9
          refine sq (h := ?_)
          refine rg (h := ?_)
          refine wy asg ?_
          refine WL.cut (by repeat (first | exact Cut.nil | apply Cut.hit | apply Cut.miss (by exact rfl))) ?_
          refine nl (h := ?_)
          refine q_seq (h := ?_)
          refine rtn (h := ?_)
          refine q_then_ret (h := ?_)
          refine q_ret (hR := ?_)
          first
            | exact fun w hS => ⟨70, ⟨fun h9 => (by cases h9), fun d hd => absurd hd (hno d)⟩, rfl, hS.sub .nil⟩
            | exact fun w hS => ⟨71, ⟨fun h9 => (by cases h9), fun d hd => absurd hd (hno d)⟩, rfl, hS.sub .nil⟩
            | exact fun w hS => ⟨72, ⟨fun h9 => (by cases h9), fun d hd => absurd hd (hno d)⟩, rfl, hS.sub .nil⟩
            | exact fun w hS => ⟨0, ⟨fun _ => ⟨_, hyes⟩, fun _ _ => rfl⟩, rfl, hS.sub .nil⟩
        · skip
          have hyes : Agr t l x0.d := ⟨ht, hl60, hall, (hx0.1 (by rwa [Bool.not_eq_false'] at h4)).1⟩
          refine skp (h := ?_)
          refine q_seq (h := ?_)
          refine sq (h := ?_)
          refine rg (h := ?_)
          refine wy asg ?_
          refine WL.cut (by repeat (first | exact Cut.nil | apply Cut.hit | apply Cut.miss (by exact rfl))) ?_
          refine nl (h := ?_)
          refine q_seq (h := ?_)
          refine rtn (h := ?_)
          refine q_ret (hR := ?_)
          first
            | exact fun w hS => ⟨70, ⟨fun h9 => (by cases h9), fun d hd => absurd hd (hno d)⟩, rfl, hS.sub .nil⟩
            | exact fun w hS => ⟨71, ⟨fun h9 => (by cases h9), fun d hd => absurd hd (hno d)⟩, rfl, hS.sub .nil⟩
            | exact fun w hS => ⟨72, ⟨fun h9 => (by cases h9), fun d hd => absurd hd (hno d)⟩, rfl, hS.sub .nil⟩
            | exact fun w hS => ⟨0, ⟨fun _ => ⟨_, hyes⟩, fun _ _ => rfl⟩, rfl, hS.sub .nil⟩
structure Bo where
  (r p one two : Int)
  deriving DecidableEq
abbrev Bo.cells (b : Bo) : List Value := [.int .i64 b.r, .int .i64 b.p, .int .i64 b.one, .int .i64 b.two]
def encBo (l : List Bo) : List (List Value) := l.map Bo.cells
theorem encBo_at {l : List Bo} {k : Nat} {b : Bo} (h : l[k]? = some b) : (encBo l)[k]? = some b.cells := by unfold encBo; rw [List.getElem?_map, h]; rfl
theorem encBo_snoc (l : List Bo) (b : Bo) : encBo (l ++ [b]) = encBo l ++ [b.cells] := by unfold encBo; rw [List.map_append]; rfl
def ofV (d : Dr) (r p s : Nat) : Int := if r = 0 then d.sl.getD (2 * p + s) 0 else d.M (r - 1) (2 * p + s)
def boV (d : Dr) (r p : Nat) : Bo := ⟨r, p, ofV d r p 0, ofV d r p 1⟩
def boRow (d : Dr) (r k : Nat) : List Bo := (List.range k).map (boV d r)
def boTil (t : Tre) (d : Dr) (k : Nat) : List Bo := (List.range k).flatMap fun r => boRow d r (szN t r)
def boL (t : Tre) (d : Dr) : List Bo := boTil t d t.R.toNat
theorem boRow_succ (d : Dr) (r k : Nat) : boRow d r (k + 1) = boRow d r k ++ [boV d r k] := by unfold boRow; rw [List.range_succ, List.map_append]; rfl
theorem boTil_succ (t : Tre) (d : Dr) (k : Nat) : boTil t d (k + 1) = boTil t d k ++ boRow d k (szN t k) := by unfold boTil; rw [List.range_succ, List.flatMap_append, List.flatMap_cons, List.flatMap_nil, List.append_nil]
theorem boRow_len (d : Dr) (r k : Nat) : (boRow d r k).length = k := by unfold boRow; rw [List.length_map, List.length_range]
theorem boTil_len {t : Tre} (hR : t.R ≤ 5) (d : Dr) : ∀ k, (boTil t d k).length ≤ 16 * k
  | 0 => Nat.le_refl _
  | k + 1 => by
    have := boTil_len hR d k
    have := szN_le hR k
    rw [boTil_succ, List.length_append, boRow_len]; omega
structure DrRd (w : World) (t : Tre) (q : DrR) : Prop where
  s : Rd w q.sA 1 q.d.sl.length (enI q.d.sl)
  m : Rd w q.mA 1 q.hs.length (mxV q.hs)
  r : ∀ r, r < t.R.toNat → ∃ A c, (mxV q.hs)[r]? = some [.slice A (szN t r) c] ∧ Rd w A 1 (szN t r) (mI (rowL t q.d.M r))
theorem DrRd.of {w0 w : World} {L : List Ent} {t : Tre} {q : DrR} (hq : MxO t q.hs t.R.toNat q.d.M) (hS : St w0 w L) (h1 : Rds L q.sA 1 q.d.sl.length (enI q.d.sl)) (h2 : Rds L q.mA 1 q.hs.length (mxV q.hs)) (h3 : mxE 3 q.hs ∈ L) : DrRd w t q :=
  ⟨hS.get h1, hS.get h2, fun r hr => by
    obtain ⟨A, c, -, e1, e2⟩ := hq.at_ hr
    exact ⟨A, c, e1, e2 _ w (hS.ok _ h3)⟩⟩
theorem sz_half {t : Tre} {r : Nat} (h1 : 0 < r) (hr : r < t.R.toNat) : szN t (r - 1) = 2 * szN t r := by
  unfold szN
  rw [show t.R.toNat - 1 - (r - 1) = (t.R.toNat - 1 - r) + 1 by omega, Nat.pow_succ]; omega
theorem sz_zero {t : Tre} (ht : TOk t) : t.sl.length = 2 * szN t 0 := by
  obtain ⟨k, hk⟩ : ∃ k, t.R.toNat = k + 1 := ⟨t.R.toNat - 1, by have := ht.r; omega⟩
  rw [ht.n]
  unfold szN
  rw [hk, Nat.pow_succ, show k + 1 - 1 - 0 = k by omega]
  omega
set_option maxRecDepth 100000 in
theorem C_ref7_of (t : Tre) (ht : TOk t) (q : DrR) (hp : PlO t q.d.sl) (hq : MxO t q.hs t.R.toNat q.d.M) (r p s : Nat) (hr : r < t.R.toNat) (hpz : p < szN t r) (hs : s < 2) (w : World) (h : DrRd w t q) : C0 Tryz.prog 73 [q.val, .int .i64 r, .int .i64 p, .int .i64 s] w (.int .i64 (ofV q.d r p s)) := by
  have hR := ht.r
  have hpn := hp.n
  have hn := sz_zero ht
  have hzl := szN_le (t := t) (by omega) r
  have hp16 : p < 16 := by omega
  have hhl := hq.n
  obtain ⟨RA, Rc, e1, e2⟩ := h.r (r - 1) (by omega)
  refine ⟨en Tryz.func73 Tryz.ntmps73 ((((St.init w).share (e := .ro q.sA 1 q.d.sl.length (enI q.d.sl)) h.s rfl rfl rfl).share (e := .ro q.mA 1 q.hs.length (mxV q.hs)) h.m rfl rfl rfl).share (e := .ro RA 1 (szN t (r - 1)) (mI (rowL t q.d.M (r - 1)))) e2 rfl rfl rfl) (h := fun F => ?_)⟩
  refine sq (h := ?_)
  refine rg (h := ?_)
  refine bxA (h := fun b0 => ?_)
  refine wy asg ?_
  refine nl (h := ?_)
  refine q_seq (h := ?_)
  refine sq (h := ?_)
  refine sq (h := ?_)
  refine rg (h := ?_)
  refine wy mv ?_
  refine wy eql ?_
  refine nl (h := ?_)
  refine q_seq (h := ?_)
  refine cd (by exact rfl) (fun h0 => ?_) (fun h0 => ?_)
  · skip
    have hr0 : r = 0 := by have := of_decide_eq_true h0; omega
    rw [hr0] at hpz
    have hv : ofV q.d r p s = q.d.sl.getD (2 * p + s) 0 := by rw [ofV, if_pos hr0]
    have hve : (enI q.d.sl)[(2 * (p : Int) + (s : Int)).toNat]? = some [.int .i64 (q.d.sl.getD (2 * p + s) 0)] := by rw [show (2 * (p : Int) + (s : Int)).toNat = 2 * p + s by omega]; exact enI_at (at_getD (by omega))
    refine sq (h := ?_)
    refine rg (h := ?_)
    refine wy (by first | exact fa | exact faE) ?_
    refine wy (by first | exact ld | exact ldE) ?_
    refine wy mv ?_
    refine wy mulI ?_
    refine wy mv ?_
    refine wy addI ?_
    refine wy (ix (A := q.sA) (m := q.d.sl.length) (hb := by omega)) ?_
    refine wy (ldE (A := q.sA) (hk := hve)) ?_
    refine wy asg ?_
    refine nl (h := ?_)
    refine q_seq (h := ?_)
    refine rtn (h := ?_)
    refine q_then_ret (h := ?_)
    refine q_ret (hR := ?_)
    exact fun w hS => ⟨by rw [hv]; rfl, hS.sub .nil⟩
  · skip
    have hr0 : ¬ r = 0 := by have := of_decide_eq_false h0; omega
    have hsz := sz_half (t := t) (r := r) (by omega) hr
    have hv : ofV q.d r p s = q.d.M (r - 1) (2 * p + s) := by rw [ofV, if_neg hr0]
    have hve : (mI (rowL t q.d.M (r - 1)))[(2 * (p : Int) + (s : Int)).toNat]? = some [.int .i64 (q.d.M (r - 1) (2 * p + s))] := by rw [show (2 * (p : Int) + (s : Int)).toNat = 2 * p + s by omega, ← rowL_get q.d.M (show 2 * p + s < szN t (r - 1) by omega)]; exact mI_at (by rw [rowL_len]; omega)
    have hhe : (mxV q.hs)[((r : Int) - 1).toNat]? = some [.slice RA (szN t (r - 1)) Rc] := by rw [show ((r : Int) - 1).toNat = r - 1 by omega]; exact e1
    refine skp (h := ?_)
    refine q_seq (h := ?_)
    refine sq (h := ?_)
    refine rg (h := ?_)
    refine wy (by first | exact fa | exact faE) ?_
    refine wy (by first | exact ld | exact ldE) ?_
    refine wy mv ?_
    refine wy subI ?_
    refine wy (ix (A := q.mA) (m := q.hs.length) (hb := by omega)) ?_
    refine wy (ldE (A := q.mA) (hk := hhe)) ?_
    refine wy mv ?_
    refine wy mulI ?_
    refine wy mv ?_
    refine wy addI ?_
    refine wy (ix (A := RA) (m := szN t (r - 1)) (hb := by omega)) ?_
    refine wy (ldE (A := RA) (hk := hve)) ?_
    refine wy asg ?_
    refine nl (h := ?_)
    refine q_seq (h := ?_)
    refine rtn (h := ?_)
    refine q_ret (hR := ?_)
    exact fun w hS => ⟨by rw [hv]; rfl, hS.sub .nil⟩
structure BoZ where
  (r : Nat) (A : Option Addr) (c : Nat)
abbrev ownBo (A : Option Addr) (c : Nat) (l : List Bo) : Ent := .own A c 50 4 l.length (encBo l)
set_option maxRecDepth 100000 in
set_option maxHeartbeats 2000000 in
theorem T_ref7_bouts (t : Tre) (ht : TOk t) (q : DrR) (hp : PlO t q.d.sl) (hq : MxO t q.hs t.R.toNat q.d.M) : Tr Tryz.prog 43 [t.val, q.val] q.ents (fun _ : Option Addr × Nat => True) (fun x => .slice x.1 (boL t q.d).length x.2) (fun x => ownBo x.1 x.2 (boL t q.d) :: q.ents) := by
  refine ⟨fun w0 w R hst => ?_⟩
  have hR := ht.r
  have hbl := fun k => boTil_len (t := t) (by omega) q.d k
  refine en Tryz.func43 Tryz.ntmps43 hst (h := fun F => ?_)
  refine sq (h := ?_)
  refine rg (h := ?_)
  refine bxA (h := fun b0 => ?_)
  refine bxA (h := fun b1 => ?_)
  refine wy asg ?_
  refine WL.cut (by repeat (first | exact Cut.nil | apply Cut.hit | apply Cut.miss (by exact rfl))) ?_
  refine nl (h := ?_)
  refine q_seq (h := ?_)
  refine sq (h := ?_)
  refine rg (h := ?_)
  refine wy asg ?_
  refine WL.cut (by repeat (first | exact Cut.nil | apply Cut.hit | apply Cut.miss (by exact rfl))) ?_
  refine nl (h := ?_)
  refine q_seq (h := ?_)
  refine sq (h := ?_)
  refine sq (h := ?_)
  refine WC.nilOwn 50 4 (h := ?_)
  refine rg (h := ?_)
  refine wy asg ?_
  refine WL.cut (by repeat (first | exact Cut.nil | apply Cut.hit | apply Cut.miss (by exact rfl))) ?_
  refine nl (h := ?_)
  refine q_seq (h := ?_)
  refine bk (h := ?_)
  refine lp (X := BoZ) (I := fun z => z.r ≤ t.R.toNat) (le := fun z => [(2, .pointer (some ⟨b0, 0, none⟩)), (3, .pointer (some ⟨b1, 0, none⟩)), (5, .slice z.A (boTil t q.d z.r).length z.c), (6, .int .i64 z.r)]) (Le := fun z => ownBo z.A z.c (boTil t q.d z.r) :: .blk b0 24 t.cells :: .blk b1 102 [.slice q.sA q.d.sl.length q.sc, .slice q.mA q.hs.length q.mc] :: (q.ents ++ R)) (μ := fun z => t.R.toNat - z.r) ⟨0, none, 0⟩ (Nat.zero_le _) sbz_ slz_ (fun z hz => ?_)
  refine sq (h := ?_)
  refine sq (h := ?_)
  refine rg (h := ?_)
  refine wy mv ?_
  refine wy (by first | exact fa | exact faE) ?_
  refine wy (by first | exact ld | exact ldE) ?_
  refine wy lss ?_
  refine nl (h := ?_)
  refine q_seq (h := ?_)
  refine cd (by exact rfl) (fun h0 => ?_) (fun h0 => ?_)
  · skip
    have hzn : z.r < t.R.toNat := by have := of_decide_eq_true h0; omega
    have hsl := szN_le (t := t) (by omega) z.r
    refine skp (h := ?_)
    refine q_seq (h := ?_)
    refine sq (h := ?_)
    refine bk (h := ?_)
    refine sq (h := ?_)
    refine rg (h := ?_)
    refine wy asg ?_
    refine WL.cut (by repeat (first | exact Cut.nil | apply Cut.hit | apply Cut.miss (by exact rfl))) ?_
    refine nl (h := ?_)
    refine q_seq (h := ?_)
    refine bk (h := ?_)
    refine lp (X := BoZ) (I := fun v => v.r ≤ szN t z.r) (le := fun v => [(2, .pointer (some ⟨b0, 0, none⟩)), (3, .pointer (some ⟨b1, 0, none⟩)), (5, .slice v.A (boTil t q.d z.r ++ boRow q.d z.r v.r).length v.c), (6, .int .i64 z.r), (7, .int .i64 v.r)]) (Le := fun v => ownBo v.A v.c (boTil t q.d z.r ++ boRow q.d z.r v.r) :: .blk b0 24 t.cells :: .blk b1 102 [.slice q.sA q.d.sl.length q.sc, .slice q.mA q.hs.length q.mc] :: (q.ents ++ R)) (μ := fun v => szN t z.r - v.r) ⟨0, z.A, z.c⟩ (Nat.zero_le _) (by dsimp only; rw [show boRow q.d z.r 0 = [] from rfl, List.append_nil]; repeat (first | exact trivial | refine ⟨rfl, ?_⟩)) (by dsimp only; rw [show boRow q.d z.r 0 = [] from rfl, List.append_nil]; exact slz_) (fun v hv => ?_)
    refine sq (h := ?_)
    refine sq (h := ?_)
    refine rg (h := ?_)
    refine wy mv ?_
    refine wy (by first | exact ldA | exact ldEA) ?_
    refine wy mv ?_
    refine cl0 (hc := fun w hS => C_ref7_Places t z.r (by omega) (by omega) w) (h := ?_)
    rw [szN_eq (by omega)]
    refine wy lss ?_
    refine nl (h := ?_)
    refine q_seq (h := ?_)
    refine cd (by exact rfl) (fun h1 => ?_) (fun h1 => ?_)
    · skip
      have hvn : v.r < szN t z.r := by have := of_decide_eq_true h1; omega
      have hll : (boTil t q.d z.r ++ boRow q.d z.r v.r).length ≤ 16 * z.r + v.r := by rw [List.length_append, boRow_len]; have := hbl z.r; omega
      refine skp (h := ?_)
      refine q_seq (h := ?_)
      refine sq (h := ?_)
      refine bk (h := ?_)
      refine rgD (by kernel_rfl) [(1000000, .blk b0 24 t.cells), (1000000, .blk b1 102 [.slice q.sA q.d.sl.length q.sc, .slice q.mA q.hs.length q.mc]), (13, ownBo v.A v.c (boTil t q.d z.r ++ boRow q.d z.r v.r)), (1000000, .own q.sA q.sc 3 1 q.d.sl.length (enI q.d.sl)), (1000000, .own q.mA q.mc 22 1 q.hs.length (mxV q.hs)), (1000000, mxE 3 q.hs)] (by repeat (first | exact HS.nil | (apply HS.keep; (repeat (first | exact At.here | apply At.there))) | (apply HS.ro; (repeat (first | exact Rds.ro | exact Rds.own | apply Rds.there))))) (h := ?_)
      refine tk 0 (hy := mv) (h := ?_)
      refine tk 1 (hy := mv) (h := ?_)
      refine tk 2 (hy := mv) (h := ?_)
      refine tk 3 (hy := (by first | exact ldA | exact ldEA)) (h := ?_)
      refine tk 4 (hy := mv) (h := ?_)
      refine tk 5 (hy := mv) (h := ?_)
      refine tk 7 (hy := (by first | exact ldA | exact ldEA)) (h := ?_)
      refine tk 8 (hy := mv) (h := ?_)
      refine tk 9 (hy := mv) (h := ?_)
      refine one 6 (h := ?_)
      refine cl0 (hc := fun w hS => C_ref7_of t ht q hp hq z.r v.r 0 hzn hvn (by omega) w (DrRd.of hq hS rdz_ rdz_ (by simp))) (h := ?_)
      refine nx (h := ?_)
      refine one 10 (h := ?_)
      refine cl0 (hc := fun w hS => C_ref7_of t ht q hp hq z.r v.r 1 hzn hvn (by omega) w (DrRd.of hq hS rdz_ rdz_ (by simp))) (h := ?_)
      refine nx (h := ?_)
      refine tk 11 (hy := bd) (h := ?_)
      refine one 12 (h := ?_)
      refine bs (h := fun b2 => ?_)
      refine nx (h := ?_)
      refine one 13 (h := ?_)
      refine ap (es := encBo (boTil t q.d z.r ++ boRow q.d z.r v.r)) (m := (boTil t q.d z.r ++ boRow q.d z.r v.r).length) (k := 1) (A := v.A) (c := v.c) (h := fun A1 c1 => ?_)
      rw [show encBo (boTil t q.d z.r ++ boRow q.d z.r v.r) ++ [[Value.int .i64 z.r, .int .i64 v.r, .int .i64 (ofV q.d z.r v.r 0), .int .i64 (ofV q.d z.r v.r 1)]] = encBo (boTil t q.d z.r ++ boRow q.d z.r (v.r + 1)) by rw [boRow_succ, ← List.append_assoc, encBo_snoc]; rfl, show (boTil t q.d z.r ++ boRow q.d z.r v.r).length + 1 = (boTil t q.d z.r ++ boRow q.d z.r (v.r + 1)).length by rw [boRow_succ, ← List.append_assoc, List.length_append (bs := [_])]; rfl]
      refine nx (h := ?_)
      refine tk 14 (hy := asg) (h := ?_)
      refine dn (h := ?_)
      refine q_blk_norm (h := ?_)
      refine q_seq (h := ?_)
      refine rg (h := ?_)
      refine wy mv ?_
      refine wy addI ?_
      refine wy asg ?_
      refine WL.cut (by repeat (first | exact Cut.nil | apply Cut.hit | apply Cut.miss (by exact rfl))) ?_
      refine nl (h := ?_)
      refine rn (x := v) ⟨v.r + 1, A1, c1⟩ hvn (by dsimp only; omega) sbz_ slz_
    · skip
      have hvn : v.r = szN t z.r := by have := of_decide_eq_false h1; omega
      have hrow : boTil t q.d z.r ++ boRow q.d z.r v.r = boTil t q.d (z.r + 1) := by rw [boTil_succ, hvn]
      refine et (h := ?_)
      refine q_then_exit (h := ?_)
      refine q_then_exit (h := ?_)
      refine q_blk_hit (h := ?_)
      refine q_blk_norm (h := ?_)
      refine q_seq (h := ?_)
      refine rg (h := ?_)
      refine wy mv ?_
      refine wy addI ?_
      refine wy asg ?_
      refine WL.cut (by repeat (first | exact Cut.nil | apply Cut.hit | apply Cut.miss (by exact rfl))) ?_
      refine nl (h := ?_)
      refine rn (x := z) ⟨z.r + 1, v.A, v.c⟩ hzn (by dsimp only; omega) (by dsimp only; rw [← hrow]; repeat (first | exact trivial | refine ⟨rfl, ?_⟩)) (by dsimp only; rw [← hrow]; exact slz_)
  · skip
    have hzn : z.r = t.R.toNat := by have := of_decide_eq_false h0; omega
    refine et (h := ?_)
    refine q_then_exit (h := ?_)
    refine q_then_exit (h := ?_)
    refine q_blk_hit (h := ?_)
    refine q_seq (h := ?_)
    refine sq (h := ?_)
    refine rg (h := ?_)
    refine wy mv ?_
    refine wy asg ?_
    refine WL.cut (by repeat (first | exact Cut.nil | apply Cut.hit | apply Cut.miss (by exact rfl))) ?_
    refine nl (h := ?_)
    refine q_seq (h := ?_)
    refine rtn (h := ?_)
    refine q_ret (hR := ?_)
    exact fun w hS => ⟨(z.A, z.c), trivial, by rw [hzn]; rfl, by rw [hzn] at hS; exact hS.sub slz_⟩
end Go.Proofs.YtmlhnajgiopfgaaGreat

namespace Go.Proofs.YtmlhnajgiopfgaaGreat
open Go Go.RowKit

set_option maxRecDepth 100000 in
theorem C_ref7_Bouts (t : Tre) (l : List Sl) (d : Dr) (ha : Agr t l d) (A : Option Addr) (c : Nat) (w : World) (h : Rd w t.A 1 t.sl.length (enI t.sl)) (hL : Rd w A 5 l.length (encSl l)) :
    CR Tryz.prog 22 [t.val, .slice A l.length c] w (fun _ : Option Addr × Nat => True) (fun x => .tuple #[.slice x.1 (boL t d).length x.2, .int .i64 0]) (fun x => [ownBo x.1 x.2 (boL t d)]) := by
  have hn32 := tre_le ha.tr
  have hl60 := ha.n
  refine ⟨en Tryz.func22 Tryz.ntmps22 (((St.init w).share (e := .ro t.A 1 t.sl.length (enI t.sl)) h rfl rfl rfl).share (e := .ro A 5 l.length (encSl l)) hL rfl rfl rfl) (h := fun F => ?_)⟩
  refine sq (h := ?_)
  refine rg (h := ?_)
  refine bxA (h := fun b0 => ?_)
  refine wy asg ?_
  refine WL.cut (by repeat (first | exact Cut.nil | apply Cut.hit | apply Cut.miss (by exact rfl))) ?_
  refine wy asg ?_
  refine WL.cut (by repeat (first | exact Cut.nil | apply Cut.hit | apply Cut.miss (by exact rfl))) ?_
  refine nl (h := ?_)
  refine q_seq (h := ?_)
  refine sq (h := ?_)
  refine sq (h := ?_)
  refine rg (h := ?_)
  refine wy (by first | exact ldA | exact ldEA) ?_
  refine wy mv ?_
  refine cl (hc := fun w hS => C_ref7_Check t l A c (by omega) (by omega) w (hS.get rdz_) (hS.get rdz_)) (h := fun x0 hx0 => ?_)
  obtain rfl : x0 = 0 := hx0.2 d ha
  refine wy asg ?_
  refine nl (h := ?_)
  refine q_seq (h := ?_)
  refine sq (h := ?_)
  refine rg (h := ?_)
  refine wy mv ?_
  refine wy ((Yd.fl (neq) (by rw [hx0.2 d ha]; rfl))) ?_
  refine nl (h := ?_)
  refine q_seq (h := ?_)
  refine cdF (h := ?_)
  refine skp (h := ?_)
  refine q_seq (h := ?_)
  refine sq (h := ?_)
  refine rg (h := ?_)
  refine wy (by first | exact ldA | exact ldEA) ?_
  refine wy mv ?_
  refine cl (hc := fun w hS => C_ref7_draw t l A c ha.tr ha.s ha.n w (hS.get rdz_) (hS.get rdz_)) (h := fun x1 hx1 => ?_)
  have hb1 : x1.b = true := by
    cases e : x1.b
    · have := hx1.2 e; rw [ha.d] at this; cases this
    · rfl
  obtain ⟨hd1, hp1, hm1⟩ := hx1.1 hb1
  have hde : d = x1.d := by rw [ha.d] at hd1; exact Option.some.inj hd1
  refine wy mv ?_
  refine wy ex ?_
  refine wy ex ?_
  refine al (h := fun b1 => ?_)
  first | refine stA (h := ?_) | refine stEA (h := ?_)
  refine wy asg ?_
  refine nl (h := ?_)
  refine q_seq (h := ?_)
  refine sq (h := ?_)
  refine rg (h := ?_)
  refine wy (by first | exact ldA | exact ldEA) ?_
  refine wy (by first | exact ldA | exact ldEA) ?_
  refine clT (hc := T_ref7_bouts t ha.tr x1 hp1 hm1) (h := fun x2 _ => ?_)
  rw [← hde]
  refine wy asg ?_
  refine WL.cut (by repeat (first | exact Cut.nil | apply Cut.hit | apply Cut.miss (by exact rfl))) ?_
  refine wy asg ?_
  refine WL.cut (by repeat (first | exact Cut.nil | apply Cut.hit | apply Cut.miss (by exact rfl))) ?_
  refine nl (h := ?_)
  refine q_seq (h := ?_)
  refine rtn (h := ?_)
  refine q_ret (hR := ?_)
  exact fun w hS => ⟨x2, trivial, rfl, hS.sub slz_⟩
theorem match_ok {t : Tre} {r p : Nat} (hr : r < t.R.toNat) (hp : p < szN t r) : matchB t r p = true := by
  have h1 := szN_eq (t := t) (r := r) (by omega)
  unfold matchB
  rw [Bool.and_eq_true, win_iff, win_iff, h1]
  omega
set_option maxRecDepth 100000 in
theorem C_ref7_checkMatch (t : Tre) (l : List Sl) (d : Dr) (ha : Agr t l d) (A : Option Addr) (c : Nat) (r p : Nat) (hr : r < t.R.toNat) (hp : p < szN t r) (w : World) (h : Rd w t.A 1 t.sl.length (enI t.sl)) (hL : Rd w A 5 l.length (encSl l)) :
    C0 Tryz.prog 44 [t.val, .slice A l.length c, .int .i64 r, .int .i64 p] w (.int .i64 0) := by
  have hn32 := tre_le ha.tr
  have hl60 := ha.n
  refine ⟨en Tryz.func44 Tryz.ntmps44 (((St.init w).share (e := .ro t.A 1 t.sl.length (enI t.sl)) h rfl rfl rfl).share (e := .ro A 5 l.length (encSl l)) hL rfl rfl rfl) (h := fun F => ?_)⟩
  refine sq (h := ?_)
  refine rg (h := ?_)
  refine bxA (h := fun b0 => ?_)
  refine wy asg ?_
  refine WL.cut (by repeat (first | exact Cut.nil | apply Cut.hit | apply Cut.miss (by exact rfl))) ?_
  refine nl (h := ?_)
  refine q_seq (h := ?_)
  refine sq (h := ?_)
  refine sq (h := ?_)
  refine rg (h := ?_)
  refine wy (by first | exact ldA | exact ldEA) ?_
  refine wy mv ?_
  refine cl (hc := fun w hS => C_ref7_Check t l A c (by omega) (by omega) w (hS.get rdz_) (hS.get rdz_)) (h := fun x0 hx0 => ?_)
  obtain rfl : x0 = 0 := hx0.2 d ha
  refine wy asg ?_
  refine nl (h := ?_)
  refine q_seq (h := ?_)
  refine sq (h := ?_)
  refine rg (h := ?_)
  refine wy mv ?_
  refine wy ((Yd.fl (neq) (by rfl))) ?_
  refine nl (h := ?_)
  refine q_seq (h := ?_)
  refine cdF (h := ?_)
  refine skp (h := ?_)
  refine q_seq (h := ?_)
  refine sq (h := ?_)
  refine sq (h := ?_)
  refine rg (h := ?_)
  refine wy (by first | exact ldA | exact ldEA) ?_
  refine wy mv ?_
  refine wy mv ?_
  refine cl0 (hc := fun w hS => C_ref7_IsMatch t r p ha.tr.r w) (h := ?_)
  refine wy ((Yd.fl (notB) (by rw [match_ok hr hp]; rfl))) ?_
  refine nl (h := ?_)
  refine q_seq (h := ?_)
  refine cdF (h := ?_)
  refine skp (h := ?_)
  refine q_seq (h := ?_)
  refine sq (h := ?_)
  refine rg (h := ?_)
  refine wy asg ?_
  refine WL.cut (by repeat (first | exact Cut.nil | apply Cut.hit | apply Cut.miss (by exact rfl))) ?_
  refine nl (h := ?_)
  refine q_seq (h := ?_)
  refine rtn (h := ?_)
  refine q_ret (hR := ?_)
  exact fun w hS => ⟨rfl, hS.sub slz_⟩
def winE (d : Dr) (r p : Nat) : Int := if d.M r p = -2 then 3 else 0
def winN (d : Dr) (r p : Nat) : Int := if d.M r p = -2 then 0 else d.M r p
set_option maxRecDepth 100000 in
set_option maxHeartbeats 1000000 in
theorem C_ref7_Winner (t : Tre) (l : List Sl) (d : Dr) (ha : Agr t l d) (A : Option Addr) (c : Nat) (r p : Nat) (hr : r < t.R.toNat) (hp : p < szN t r) (w : World) (h : Rd w t.A 1 t.sl.length (enI t.sl)) (hL : Rd w A 5 l.length (encSl l)) :
    C0 Tryz.prog 23 [t.val, .slice A l.length c, .int .i64 r, .int .i64 p] w (.tuple #[.int .i64 (winN d r p), .int .i64 (winE d r p)]) := by
  have hR := ha.tr.r
  have hzl := szN_le (t := t) (by omega) r
  refine ⟨en Tryz.func23 Tryz.ntmps23 (((St.init w).share (e := .ro t.A 1 t.sl.length (enI t.sl)) h rfl rfl rfl).share (e := .ro A 5 l.length (encSl l)) hL rfl rfl rfl) (h := fun F => ?_)⟩
  refine sq (h := ?_)
  refine rg (h := ?_)
  refine bxA (h := fun b0 => ?_)
  refine wy asg ?_
  refine WL.cut (by repeat (first | exact Cut.nil | apply Cut.hit | apply Cut.miss (by exact rfl))) ?_
  refine wy asg ?_
  refine WL.cut (by repeat (first | exact Cut.nil | apply Cut.hit | apply Cut.miss (by exact rfl))) ?_
  refine nl (h := ?_)
  refine q_seq (h := ?_)
  refine sq (h := ?_)
  refine sq (h := ?_)
  refine rg (h := ?_)
  refine wy (by first | exact ldA | exact ldEA) ?_
  refine wy mv ?_
  refine wy mv ?_
  refine wy mv ?_
  refine cl0 (hc := fun w hS => C_ref7_checkMatch t l d ha A c r p hr hp w (hS.get rdz_) (hS.get rdz_)) (h := ?_)
  refine wy asg ?_
  refine nl (h := ?_)
  refine q_seq (h := ?_)
  refine sq (h := ?_)
  refine rg (h := ?_)
  refine wy mv ?_
  refine wy ((Yd.fl (neq) (by rfl))) ?_
  refine nl (h := ?_)
  refine q_seq (h := ?_)
  refine cdF (h := ?_)
  refine skp (h := ?_)
  refine q_seq (h := ?_)
  refine sq (h := ?_)
  refine rg (h := ?_)
  refine wy (by first | exact ldA | exact ldEA) ?_
  refine wy mv ?_
  refine cl (hc := fun w hS => C_ref7_draw t l A c ha.tr ha.s ha.n w (hS.get rdz_) (hS.get rdz_)) (h := fun x1 hx1 => ?_)
  have hb1 : x1.b = true := by
    cases e : x1.b
    · have := hx1.2 e; rw [ha.d] at this; cases this
    · rfl
  obtain ⟨hd1, hp1, hm1⟩ := hx1.1 hb1
  have hde : d = x1.d := by rw [ha.d] at hd1; exact Option.some.inj hd1
  have hhl := hm1.n
  obtain ⟨RA, Rc, hr0, hrv, hrd⟩ := hm1.at_ hr
  have hve : (mI (rowL t x1.d.M r))[p]? = some [.int .i64 (x1.d.M r p)] := by rw [← rowL_get x1.d.M hp]; exact mI_at (by rw [rowL_len]; exact hp)
  refine wy mv ?_
  refine wy ex ?_
  refine wy ex ?_
  refine al (h := fun b1 => ?_)
  first | refine stA (h := ?_) | refine stEA (h := ?_)
  refine wy asg ?_
  refine nl (h := ?_)
  refine q_seq (h := ?_)
  refine sq (h := ?_)
  refine sq (h := ?_)
  refine rg (h := ?_)
  refine wy (by first | exact fa | exact faE) ?_
  refine wy (by first | exact ld | exact ldE) ?_
  refine wy mv ?_
  refine wy (ix (A := x1.mA) (m := x1.hs.length) (hb := by omega)) ?_
  refine wy (ldE (A := x1.mA) (hk := hrv)) ?_
  refine wy mv ?_
  refine wy (ix (A := RA) (m := szN t r) (hb := by omega) (hr := by repeat (first | exact Rds.any (hrd 3) | apply Rds.there))) ?_
  refine wy (ldE (A := RA) (hr := by repeat (first | exact Rds.any (hrd 3) | apply Rds.there)) (hk := hve)) ?_
  refine wy eql ?_
  refine nl (h := ?_)
  refine q_seq (h := ?_)
  refine cd (by exact rfl) (fun h1 => ?_) (fun h1 => ?_)
  · skip
    have hM : d.M r p = -2 := by rw [hde]; exact of_decide_eq_true h1
    refine sq (h := ?_)
    refine rg (h := ?_)
    refine wy asg ?_
    refine WL.cut (by repeat (first | exact Cut.nil | apply Cut.hit | apply Cut.miss (by exact rfl))) ?_
    refine wy asg ?_
    refine WL.cut (by repeat (first | exact Cut.nil | apply Cut.hit | apply Cut.miss (by exact rfl))) ?_
    refine nl (h := ?_)
    refine q_seq (h := ?_)
    refine rtn (h := ?_)
    refine q_then_ret (h := ?_)
    refine q_ret (hR := ?_)
    exact fun w hS => ⟨by rw [winN, winE, if_pos hM, if_pos hM]; rfl, hS.sub .nil⟩
  · skip
    have hM : ¬ d.M r p = -2 := by rw [hde]; exact of_decide_eq_false h1
    refine skp (h := ?_)
    refine q_seq (h := ?_)
    refine sq (h := ?_)
    refine rg (h := ?_)
    refine wy (by first | exact fa | exact faE) ?_
    refine wy (by first | exact ld | exact ldE) ?_
    refine wy mv ?_
    refine wy (ix (A := x1.mA) (m := x1.hs.length) (hb := by omega)) ?_
    refine wy (ldE (A := x1.mA) (hk := hrv)) ?_
    refine wy mv ?_
    refine wy (ix (A := RA) (m := szN t r) (hb := by omega) (hr := by repeat (first | exact Rds.any (hrd 3) | apply Rds.there))) ?_
    refine wy (ldE (A := RA) (hr := by repeat (first | exact Rds.any (hrd 3) | apply Rds.there)) (hk := hve)) ?_
    refine wy asg ?_
    refine WL.cut (by repeat (first | exact Cut.nil | apply Cut.hit | apply Cut.miss (by exact rfl))) ?_
    refine wy asg ?_
    refine WL.cut (by repeat (first | exact Cut.nil | apply Cut.hit | apply Cut.miss (by exact rfl))) ?_
    refine nl (h := ?_)
    refine q_seq (h := ?_)
    refine rtn (h := ?_)
    refine q_ret (hR := ?_)
    exact fun w hS => ⟨by rw [winN, winE, if_neg hM, if_neg hM, hde]; rfl, hS.sub .nil⟩
theorem boTil_mem {t : Tre} {d : Dr} {b : Bo} : ∀ {k : Nat}, b ∈ boTil t d k → ∃ r p, r < k ∧ p < szN t r ∧ b = boV d r p
  | 0, h => by cases h
  | k + 1, h => by
    rw [boTil_succ, List.mem_append] at h
    rcases h with h | h
    · obtain ⟨r, p, h1, h2⟩ := boTil_mem h
      exact ⟨r, p, by omega, h2⟩
    · unfold boRow at h
      obtain ⟨p, hp, rfl⟩ := List.mem_map.1 h
      exact ⟨k, p, by omega, List.mem_range.1 hp, rfl⟩
def opB (d : Dr) (b : Bo) : Bool := decide (d.M b.r.toNat b.p.toNat = -2)
def openL (t : Tre) (d : Dr) : List Bo := (boL t d).filter (opB d)
theorem open_mem {t : Tre} {d : Dr} {b : Bo} (h : b ∈ openL t d) : ∃ r p, r < t.R.toNat ∧ p < szN t r ∧ b = boV d r p ∧ d.M r p = -2 := by
  obtain ⟨h1, h2⟩ := List.mem_filter.1 h
  obtain ⟨r, p, h3, h4, rfl⟩ := boTil_mem h1
  exact ⟨r, p, h3, h4, rfl, of_decide_eq_true h2⟩
def opTil (t : Tre) (d : Dr) (k : Nat) : List Bo := ((boL t d).take k).filter (opB d)
theorem opTil_succ {t : Tre} {d : Dr} {k : Nat} {b : Bo} (h : (boL t d)[k]? = some b) : opTil t d (k + 1) = if opB d b = true then opTil t d k ++ [b] else opTil t d k := by
  unfold opTil
  rw [List.take_add_one, h, Option.toList_some, List.filter_append, List.filter_cons]
  split
  · rfl
  · rw [List.filter_nil, List.append_nil]
structure Stg where
  (len : Sn) (due : Int)
abbrev Stg.cells (s : Stg) : List Value := [.int .i64 s.len.1, .int .i64 s.len.2, .int .i64 s.due]
def encStg (l : List Stg) : List (List Value) := l.map Stg.cells
theorem encStg_at {l : List Stg} {k : Nat} {s : Stg} (h : l[k]? = some s) : (encStg l)[k]? = some s.cells := by unfold encStg; rw [List.getElem?_map, h]; rfl
structure StO (t : Tre) (sg : List Stg) : Prop where
  n : (sg.length : Int) = t.R
  s : ∀ s ∈ sg, (1 ≤ s.len.1 ∧ s.len.1 ≤ s.len.2 ∧ s.len.2 ≤ 600) ∧ 0 ≤ s.due ∧ s.due ≤ 2
structure J8R where
  (A : Option Addr) (n c : Nat) (B : Option Addr) (m k : Nat) (e : Int)
def J8P (t : Tre) (l : List Sl) (sg : List Stg) (q : J8R) : Prop := q.e = 0 → ∃ d, Agr t l d ∧ StO t sg ∧ q.n = (openL t d).length ∧ q.n ≤ 6
structure AnyZ where
  (k : Nat) (A : Option Addr) (c : Nat) (es : List (List Value))
theorem lenB8_iff {s : Sn} : lenB8 s = true ↔ 1 ≤ s.1 ∧ s.1 ≤ s.2 ∧ s.2 ≤ 600 := by simp [lenB8, and_assoc]
set_option maxRecDepth 100000 in
set_option maxHeartbeats 4000000 in
theorem C_ref8_Jobs (t : Tre) (l : List Sl) (sg : List Stg) (A : Option Addr) (c : Nat) (sA : Option Addr) (sc : Nat) (hn : t.sl.length ≤ 1000000) (hl : l.length ≤ 1000000) (hsn : sg.length ≤ 1000000) (w : World) (h : Rd w t.A 1 t.sl.length (enI t.sl)) (hL : Rd w A 5 l.length (encSl l)) (hS8 : Rd w sA 3 sg.length (encStg sg)) :
    CR Tryz.prog 6 [t.val, .slice A l.length c, .slice sA sg.length sc] w (J8P t l sg) (fun q => .tuple #[.slice q.A q.n q.c, .slice q.B q.m q.k, .int .i64 q.e]) (fun _ => []) := by
  refine ⟨en Tryz.func6 Tryz.ntmps6 ((((St.init w).share (e := .ro t.A 1 t.sl.length (enI t.sl)) h rfl rfl rfl).share (e := .ro A 5 l.length (encSl l)) hL rfl rfl rfl).share (e := .ro sA 3 sg.length (encStg sg)) hS8 rfl rfl rfl) (h := fun F => ?_)⟩
  refine sq (h := ?_)
  refine rg (h := ?_)
  refine bxA (h := fun b0 => ?_)
  refine wy asg ?_
  refine WL.cut (by repeat (first | exact Cut.nil | apply Cut.hit | apply Cut.miss (by exact rfl))) ?_
  refine wy asg ?_
  refine WL.cut (by repeat (first | exact Cut.nil | apply Cut.hit | apply Cut.miss (by exact rfl))) ?_
  refine wy asg ?_
  refine WL.cut (by repeat (first | exact Cut.nil | apply Cut.hit | apply Cut.miss (by exact rfl))) ?_
  refine nl (h := ?_)
  refine q_seq (h := ?_)
  refine sq (h := ?_)
  refine sq (h := ?_)
  refine rg (h := ?_)
  refine wy (by first | exact ldA | exact ldEA) ?_
  refine wy mv ?_
  refine cl (hc := fun w hS => C_ref7_Check t l A c hn hl w (hS.get rdz_) (hS.get rdz_)) (h := fun x0 hx0 => ?_)
  refine wy asg ?_
  refine WL.cut (by repeat (first | exact Cut.nil | apply Cut.hit | apply Cut.miss (by exact rfl))) ?_
  refine nl (h := ?_)
  refine q_seq (h := ?_)
  refine sq (h := ?_)
  refine rg (h := ?_)
  refine wy mv ?_
  refine wy neq ?_
  refine nl (h := ?_)
  refine q_seq (h := ?_)
  refine cd (by exact rfl) (fun h0 => ?_) (fun h0 => ?_)
  · skip
    have hx9 : x0 ≠ 0 := of_decide_eq_false (by rwa [Bool.not_eq_true'] at h0)
    refine sq (h := ?_)
    refine rg (h := ?_)
    refine wy mv ?_
    refine wy asg ?_
    refine WL.cut (by repeat (first | exact Cut.nil | apply Cut.hit | apply Cut.miss (by exact rfl))) ?_
    refine wy asg ?_
    refine WL.cut (by repeat (first | exact Cut.nil | apply Cut.hit | apply Cut.miss (by exact rfl))) ?_
    refine wy asg ?_
    refine WL.cut (by repeat (first | exact Cut.nil | apply Cut.hit | apply Cut.miss (by exact rfl))) ?_
    refine nl (h := ?_)
    refine q_seq (h := ?_)
    refine rtn (h := ?_)
    refine q_then_ret (h := ?_)
    refine q_ret (hR := ?_)
    exact fun w hS => ⟨⟨none, 0, 0, none, 0, 0, x0⟩, fun h9 => absurd h9 hx9, rfl, hS.sub .nil⟩
  · skip
    obtain rfl : x0 = 0 := of_decide_eq_true (by rwa [Bool.not_eq_false'] at h0)
    obtain ⟨d, ha⟩ := hx0.1 rfl
    have hR := ha.tr.r
    have hbl := boTil_len (t := t) (by omega) d t.R.toNat
    refine skp (h := ?_)
    refine q_seq (h := ?_)
    refine sq (h := ?_)
    refine sq (h := ?_)
    refine rg (h := ?_)
    refine wy mv ?_
    refine wy lenS ?_
    refine wy (by first | exact fa | exact faE) ?_
    refine wy (by first | exact ld | exact ldE) ?_
    refine wy neq ?_
    refine nl (h := ?_)
    refine q_seq (h := ?_)
    refine cd (by exact rfl) (fun h1 => ?_) (fun h1 => ?_)
    · skip
      refine sq (h := ?_)
      refine rg (h := ?_)
      refine wy asg ?_
      refine WL.cut (by repeat (first | exact Cut.nil | apply Cut.hit | apply Cut.miss (by exact rfl))) ?_
      refine wy asg ?_
      refine WL.cut (by repeat (first | exact Cut.nil | apply Cut.hit | apply Cut.miss (by exact rfl))) ?_
      refine wy asg ?_
      refine WL.cut (by repeat (first | exact Cut.nil | apply Cut.hit | apply Cut.miss (by exact rfl))) ?_
      refine nl (h := ?_)
      refine q_seq (h := ?_)
      refine rtn (h := ?_)
      refine q_then_ret (h := ?_)
      refine q_ret (hR := ?_)
      exact fun w hS => ⟨⟨none, 0, 0, none, 0, 0, 82⟩, fun h9 => (by cases h9), rfl, hS.sub .nil⟩
    · skip
      have hsl : (sg.length : Int) = t.R := of_decide_eq_true (by rwa [Bool.not_eq_false'] at h1)
      refine skp (h := ?_)
      refine q_seq (h := ?_)
      refine sq (h := ?_)
      refine sq (h := ?_)
      refine rg (h := ?_)
      refine wy asg ?_
      refine WL.cut (by repeat (first | exact Cut.nil | apply Cut.hit | apply Cut.miss (by exact rfl))) ?_
      refine nl (h := ?_)
      refine q_seq (h := ?_)
      refine bk (h := ?_)
      refine lp (X := Nat) (I := fun k => k ≤ sg.length ∧ ∀ s ∈ sg.take k, (1 ≤ s.len.1 ∧ s.len.1 ≤ s.len.2 ∧ s.len.2 ≤ 600) ∧ 0 ≤ s.due ∧ s.due ≤ 2) (le := fun k => [(1, .slice A l.length c), (2, .slice sA sg.length sc), (3, .pointer (some ⟨b0, 0, none⟩)), (10, .int .i64 k)]) (Le := fun _ => [.ro sA 3 sg.length (encStg sg), .ro A 5 l.length (encSl l), .ro t.A 1 t.sl.length (enI t.sl), .blk b0 24 t.cells]) (μ := fun k => sg.length - k) 0 ⟨Nat.zero_le _, fun s hs => (by cases hs)⟩ sbz_ slz_ (fun k hk => ?_)
      obtain ⟨hk1, hk2⟩ := hk
      refine sq (h := ?_)
      refine sq (h := ?_)
      refine rg (h := ?_)
      refine wy mv ?_
      refine wy mv ?_
      refine wy lenS ?_
      refine wy lss ?_
      refine nl (h := ?_)
      refine q_seq (h := ?_)
      refine cd (by exact rfl) (fun h2 => ?_) (fun h2 => ?_)
      · skip
        have hkn : k < sg.length := by have := of_decide_eq_true h2; omega
        obtain ⟨s, hs⟩ : ∃ s, sg[k]? = some s := ⟨_, List.getElem?_eq_getElem hkn⟩
        have hse := encStg_at hs
        refine skp (h := ?_)
        refine q_seq (h := ?_)
        refine sq (h := ?_)
        refine bk (h := ?_)
        refine sq (h := ?_)
        refine rg (h := ?_)
        refine wy mv ?_
        refine wy mv ?_
        refine wy (ix (A := sA) (m := sg.length) (hb := by omega)) ?_
        refine wy (by first | exact fa | exact faE) ?_
        refine wy (ldEA (A := sA) (hk := hse)) ?_
        refine cl0 (hc := fun w hS => C_ref8_isLength s.len w) (h := ?_)
        refine wy notB ?_
        refine wy mv ?_
        apply brOr 8 45 53 (by exact rfl)
        · intro hb3
          refine un (h := ?_)
          refine wy mv ?_
          refine un (h := ?_)
          refine wy mv ?_
          refine un (h := ?_)
          refine wy (ix (A := sA) (m := sg.length) (hb := by omega)) ?_
          refine un (h := ?_)
          refine wy (by first | exact fa | exact faE) ?_
          refine un (h := ?_)
          refine wy (ldE (A := sA) (hk := hse)) ?_
          refine un (h := ?_)
          refine cl0 (hc := fun w hS => C_ref8_within s.due 0 2 w) (h := ?_)
          refine un (h := ?_)
          refine wy notB ?_
          refine wy (by first | exact pkT | exact pkF) ?_
          exact mg (by repeat (first | exact trivial | refine ⟨rfl, ?_⟩ | refine ⟨by rw [hb3]; rfl, ?_⟩)) slz_
        · intro hb3
          repeat (first | refine un (h := ?_) | refine sk (h := ?_) | refine WL.y (hy := pkF) (h := ?_) | refine WL.y (hy := pkT) (h := ?_))
          exact mg (by repeat (first | exact trivial | refine ⟨rfl, ?_⟩ | refine ⟨by rw [hb3]; rfl, ?_⟩)) slz_
        refine nl (h := ?_)
        refine q_seq (h := ?_)
        refine cd (by exact rfl) (fun h4 => ?_) (fun h4 => ?_)
        · skip
          refine sq (h := ?_)
          refine rg (h := ?_)
          refine wy asg ?_
          refine WL.cut (by repeat (first | exact Cut.nil | apply Cut.hit | apply Cut.miss (by exact rfl))) ?_
          refine wy asg ?_
          refine WL.cut (by repeat (first | exact Cut.nil | apply Cut.hit | apply Cut.miss (by exact rfl))) ?_
          refine wy asg ?_
          refine WL.cut (by repeat (first | exact Cut.nil | apply Cut.hit | apply Cut.miss (by exact rfl))) ?_
          refine nl (h := ?_)
          refine q_seq (h := ?_)
          refine rtn (h := ?_)
          refine q_blk_ret (h := ?_)
          refine q_then_ret (h := ?_)
          refine q_then_ret (h := ?_)
          refine q_blk_ret (h := ?_)
          refine q_then_ret (h := ?_)
          refine q_ret (hR := ?_)
          exact fun w hS => ⟨⟨none, 0, 0, none, 0, 0, 82⟩, fun h9 => (by cases h9), rfl, hS.sub .nil⟩
        · skip
          have h9 := h4
          rw [Bool.or_eq_false_iff, Bool.not_eq_false', Bool.not_eq_false', lenB8_iff, win_iff] at h9
          refine skp (h := ?_)
          refine q_blk_norm (h := ?_)
          refine q_seq (h := ?_)
          refine rg (h := ?_)
          refine wy mv ?_
          refine wy addI ?_
          refine wy asg ?_
          refine WL.cut (by repeat (first | exact Cut.nil | apply Cut.hit | apply Cut.miss (by exact rfl))) ?_
          refine nl (h := ?_)
          refine rn (x := k) (k + 1) ⟨hkn, fun s' hs' => by
            rw [List.take_add_one, hs, List.mem_append] at hs'
            rcases hs' with hs' | hs'
            · exact hk2 s' hs'
            · rw [List.mem_singleton.1 hs']; exact h9⟩ (by omega) sbz_ slz_
      · skip
        have hkn : k = sg.length := by have := of_decide_eq_false h2; omega
        rw [hkn, List.take_length] at hk2
        have hst : StO t sg := ⟨hsl, hk2⟩
        have hbn : (boL t d).length ≤ 80 := by unfold boL; omega
        refine et (h := ?_)
        refine q_then_exit (h := ?_)
        refine q_then_exit (h := ?_)
        refine q_blk_hit (h := ?_)
        refine q_seq (h := ?_)
        refine sq (h := ?_)
        refine rg (h := ?_)
        refine wy asg ?_
        refine WL.cut (by repeat (first | exact Cut.nil | apply Cut.hit | apply Cut.miss (by exact rfl))) ?_
        refine nl (h := ?_)
        refine q_seq (h := ?_)
        refine sq (h := ?_)
        refine WC.nilOwn 50 4 (h := ?_)
        refine rg (h := ?_)
        refine wy (by first | exact ldA | exact ldEA) ?_
        refine wy mv ?_
        refine cl (hc := fun w hS => C_ref7_Bouts t l d ha A c w (hS.get rdz_) (hS.get rdz_)) (h := fun x1 _ => ?_)
        refine wy mv ?_
        refine wy ex ?_
        refine wy ex ?_
        refine wy asg ?_
        refine WL.cut (by repeat (first | exact Cut.nil | apply Cut.hit | apply Cut.miss (by exact rfl))) ?_
        refine wy asg ?_
        refine WL.cut (by repeat (first | exact Cut.nil | apply Cut.hit | apply Cut.miss (by exact rfl))) ?_
        refine nl (h := ?_)
        refine q_seq (h := ?_)
        refine sq (h := ?_)
        refine sq (h := ?_)
        refine rg (h := ?_)
        refine wy asg ?_
        refine WL.cut (by repeat (first | exact Cut.nil | apply Cut.hit | apply Cut.miss (by exact rfl))) ?_
        refine nl (h := ?_)
        refine q_seq (h := ?_)
        refine bk (h := ?_)
        refine lp (X := OnZ) (I := fun z => z.k ≤ (boL t d).length) (le := fun z => [(1, .slice A l.length c), (2, .slice sA sg.length sc), (3, .pointer (some ⟨b0, 0, none⟩)), (11, .slice z.A (opTil t d z.k).length z.c), (12, .slice x1.1 (boL t d).length x1.2), (14, .int .i64 z.k)]) (Le := fun z => [.own z.A z.c 50 4 (opTil t d z.k).length (encBo (opTil t d z.k)), ownBo x1.1 x1.2 (boL t d), .ro sA 3 sg.length (encStg sg), .ro A 5 l.length (encSl l), .ro t.A 1 t.sl.length (enI t.sl), .blk b0 24 t.cells]) (μ := fun z => (boL t d).length - z.k) ⟨0, none, 0⟩ (Nat.zero_le _) sbz_ slz_ (fun z hz => ?_)
        refine sq (h := ?_)
        refine sq (h := ?_)
        refine rg (h := ?_)
        refine wy mv ?_
        refine wy mv ?_
        refine wy lenS ?_
        refine wy lss ?_
        refine nl (h := ?_)
        refine q_seq (h := ?_)
        refine cd (by exact rfl) (fun h5 => ?_) (fun h5 => ?_)
        · skip
          have hzn : z.k < (boL t d).length := by have := of_decide_eq_true h5; omega
          obtain ⟨b, hb⟩ : ∃ b, (boL t d)[z.k]? = some b := ⟨_, List.getElem?_eq_getElem hzn⟩
          obtain ⟨r, p, hr, hp, rfl⟩ := boTil_mem (List.mem_of_getElem? hb)
          have hbe := encBo_at hb
          have hot := opTil_succ hb
          have hol : (opTil t d z.k).length ≤ z.k := by unfold opTil; exact Nat.le_trans (List.length_filter_le ..) (by rw [List.length_take]; omega)
          refine skp (h := ?_)
          refine q_seq (h := ?_)
          refine sq (h := ?_)
          refine bk (h := ?_)
          refine sq (h := ?_)
          refine rgD (by kernel_rfl) [(1000000, .blk b0 24 t.cells), (1000000, ownBo x1.1 x1.2 (boL t d)), (1000000, .ro A 5 l.length (encSl l)), (1000000, .ro t.A 1 t.sl.length (enI t.sl))] (by repeat (first | exact HS.nil | (apply HS.keep; (repeat (first | exact At.here | apply At.there))) | (apply HS.ro; (repeat (first | exact Rds.ro | exact Rds.own | apply Rds.there))))) (h := ?_)
          refine tk 0 (hy := (by first | exact ldA | exact ldEA)) (h := ?_)
          refine tk 1 (hy := mv) (h := ?_)
          refine tk 2 (hy := mv) (h := ?_)
          refine tk 3 (hy := mv) (h := ?_)
          refine tk 4 (hy := ix (A := x1.1) (m := (boL t d).length) (hb := by omega)) (h := ?_)
          refine tk 5 (hy := (by first | exact fa | exact faE)) (h := ?_)
          refine tk 6 (hy := ldE (A := x1.1) (hk := hbe)) (h := ?_)
          refine tk 7 (hy := mv) (h := ?_)
          refine tk 8 (hy := mv) (h := ?_)
          refine tk 9 (hy := ix (A := x1.1) (m := (boL t d).length) (hb := by omega)) (h := ?_)
          refine tk 10 (hy := (by first | exact fa | exact faE)) (h := ?_)
          refine tk 11 (hy := ldE (A := x1.1) (hk := hbe)) (h := ?_)
          refine one 12 (h := ?_)
          refine cl0 (hc := fun w hS => C_ref7_Winner t l d ha A c r p hr hp w (hS.get rdz_) (hS.get rdz_)) (h := ?_)
          refine nx (h := ?_)
          refine tk 13 (hy := mv) (h := ?_)
          refine tk 14 (hy := ex) (h := ?_)
          refine tk 15 (hy := ex) (h := ?_)
          refine tk 16 (hy := asg) (h := ?_)
          refine tk 17 (hy := asg) (h := ?_)
          refine dn (h := ?_)
          refine q_seq (h := ?_)
          refine sq (h := ?_)
          refine rg (h := ?_)
          refine wy mv ?_
          refine wy eql ?_
          refine nl (h := ?_)
          refine q_seq (h := ?_)
          refine cd (by exact rfl) (fun h6 => ?_) (fun h6 => ?_)
          · skip
            have hop : opB d (boV d r p) = true := by
              have h9 := of_decide_eq_true h6
              unfold winE at h9
              split at h9
              · next h8 => exact decide_eq_true h8
              · cases h9
            rw [if_pos hop] at hot
            refine rg (h := ?_)
            refine wy mv ?_
            refine wy mv ?_
            refine wy mv ?_
            refine wy (ix (A := x1.1) (m := (boL t d).length) (hb := by omega)) ?_
            refine wy (ldEW (A := x1.1) (cs := (boV d r p).cells) (hk := hbe)) ?_
            refine bs (h := fun b1 => ?_)
            refine ap (es := encBo (opTil t d z.k)) (m := (opTil t d z.k).length) (k := 1) (A := z.A) (c := z.c) (h := fun A1 c1 => ?_)
            rw [show encBo (opTil t d z.k) ++ [(boV d r p).cells] = encBo (opTil t d (z.k + 1)) by rw [hot, encBo_snoc], show (opTil t d z.k).length + 1 = (opTil t d (z.k + 1)).length by rw [hot, List.length_append]; rfl]
            refine wy asg ?_
            refine WL.cut (by repeat (first | exact Cut.nil | apply Cut.hit | apply Cut.miss (by exact rfl))) ?_
            refine nl (h := ?_)
            refine q_blk_norm (h := ?_)
            refine q_seq (h := ?_)
            refine rg (h := ?_)
            refine wy mv ?_
            refine wy addI ?_
            refine wy asg ?_
            refine WL.cut (by repeat (first | exact Cut.nil | apply Cut.hit | apply Cut.miss (by exact rfl))) ?_
            refine nl (h := ?_)
            first
              | (refine rn (x := z) ⟨z.k + 1, A1, c1⟩ hzn (by dsimp only; omega) sbz_ slz_; done)
              | (refine rn (x := z) ⟨z.k + 1, z.A, z.c⟩ hzn (by dsimp only; omega) (by dsimp only; rw [hot]; repeat (first | exact trivial | refine ⟨rfl, ?_⟩)) (by dsimp only; rw [hot]; exact slz_); done)
          · skip
            have hop : opB d (boV d r p) = false := by
              have h9 := of_decide_eq_false h6
              unfold winE at h9
              split at h9
              · exact absurd rfl h9
              · next h8 => exact decide_eq_false h8
            rw [if_neg (by rw [hop]; decide)] at hot
            refine skp (h := ?_)
            refine q_blk_norm (h := ?_)
            refine q_seq (h := ?_)
            refine rg (h := ?_)
            refine wy mv ?_
            refine wy addI ?_
            refine wy asg ?_
            refine WL.cut (by repeat (first | exact Cut.nil | apply Cut.hit | apply Cut.miss (by exact rfl))) ?_
            refine nl (h := ?_)
            first
              | (refine rn (x := z) ⟨z.k + 1, A1, c1⟩ hzn (by dsimp only; omega) sbz_ slz_; done)
              | (refine rn (x := z) ⟨z.k + 1, z.A, z.c⟩ hzn (by dsimp only; omega) (by dsimp only; rw [hot]; repeat (first | exact trivial | refine ⟨rfl, ?_⟩)) (by dsimp only; rw [hot]; exact slz_); done)
        · skip
          have hzn : z.k = (boL t d).length := by have := of_decide_eq_false h5; omega
          have hfin : opTil t d z.k = openL t d := by unfold opTil openL; rw [hzn, List.take_length]
          have hoM : ∀ b ∈ opTil t d z.k, ∃ r p, r < t.R.toNat ∧ p < szN t r ∧ b = boV d r p ∧ d.M r p = -2 := fun b hb => open_mem (hfin ▸ hb)
          refine et (h := ?_)
          refine q_then_exit (h := ?_)
          refine q_then_exit (h := ?_)
          refine q_blk_hit (h := ?_)
          refine q_seq (h := ?_)
          refine sq (h := ?_)
          refine sq (h := ?_)
          refine rg (h := ?_)
          refine wy mv ?_
          refine wy lenS ?_
          refine wy gtr ?_
          refine nl (h := ?_)
          refine q_seq (h := ?_)
          refine cd (by exact rfl) (fun h7 => ?_) (fun h7 => ?_)
          · skip
            refine sq (h := ?_)
            refine rg (h := ?_)
            refine wy asg ?_
            refine WL.cut (by repeat (first | exact Cut.nil | apply Cut.hit | apply Cut.miss (by exact rfl))) ?_
            refine wy asg ?_
            refine WL.cut (by repeat (first | exact Cut.nil | apply Cut.hit | apply Cut.miss (by exact rfl))) ?_
            refine wy asg ?_
            refine WL.cut (by repeat (first | exact Cut.nil | apply Cut.hit | apply Cut.miss (by exact rfl))) ?_
            refine nl (h := ?_)
            refine q_seq (h := ?_)
            refine rtn (h := ?_)
            refine q_then_ret (h := ?_)
            refine q_ret (hR := ?_)
            exact fun w hS => ⟨⟨none, 0, 0, none, 0, 0, 2⟩, fun h9 => (by cases h9), rfl, hS.sub .nil⟩
          · skip
            have hl6 : (opTil t d z.k).length ≤ 6 := by have := of_decide_eq_false h7; omega
            refine skp (h := ?_)
            refine q_seq (h := ?_)
            refine sq (h := ?_)
            refine rg (h := ?_)
            refine wy asg ?_
            refine WL.cut (by repeat (first | exact Cut.nil | apply Cut.hit | apply Cut.miss (by exact rfl))) ?_
            refine nl (h := ?_)
            refine q_seq (h := ?_)
            refine sq (h := ?_)
            refine sq (h := ?_)
            refine WC.nilOwn 80 6 (h := ?_)
            refine rg (h := ?_)
            refine wy asg ?_
            refine WL.cut (by repeat (first | exact Cut.nil | apply Cut.hit | apply Cut.miss (by exact rfl))) ?_
            refine nl (h := ?_)
            refine q_seq (h := ?_)
            refine bk (h := ?_)
            refine lp (X := AnyZ) (I := fun u => u.k ≤ (opTil t d z.k).length) (le := fun u => [(2, .slice sA sg.length sc), (11, .slice z.A (opTil t d z.k).length z.c), (17, .slice u.A u.k u.c), (18, .int .i64 u.k)]) (Le := fun u => [.own u.A u.c 80 6 u.k u.es, .own z.A z.c 50 4 (opTil t d z.k).length (encBo (opTil t d z.k)), .ro sA 3 sg.length (encStg sg)]) (μ := fun u => (opTil t d z.k).length - u.k) ⟨0, none, 0, []⟩ (Nat.zero_le _) sbz_ slz_ (fun u hu => ?_)
            refine sq (h := ?_)
            refine sq (h := ?_)
            refine rg (h := ?_)
            refine wy mv ?_
            refine wy mv ?_
            refine wy lenS ?_
            refine wy lss ?_
            refine nl (h := ?_)
            refine q_seq (h := ?_)
            refine cd (by exact rfl) (fun h8 => ?_) (fun h8 => ?_)
            · skip
              have hun : u.k < (opTil t d z.k).length := by have := of_decide_eq_true h8; omega
              obtain ⟨b, hb⟩ : ∃ b, (opTil t d z.k)[u.k]? = some b := ⟨_, List.getElem?_eq_getElem hun⟩
              obtain ⟨r, p, hr, hp, rfl, -⟩ := hoM b (List.mem_of_getElem? hb)
              have hoe := encBo_at hb
              have hpl := szN_le (t := t) (by omega) r
              obtain ⟨s, hs⟩ : ∃ s, sg[r]? = some s := ⟨_, List.getElem?_eq_getElem (by omega)⟩
              have hse := encStg_at hs
              refine skp (h := ?_)
              refine q_seq (h := ?_)
              refine sq (h := ?_)
              refine bk (h := ?_)
              refine sq (h := ?_)
              refine rgD (by kernel_rfl) [(1000000, .own z.A z.c 50 4 (opTil t d z.k).length (encBo (opTil t d z.k))), (1000000, .ro sA 3 sg.length (encStg sg))] (by repeat (first | exact HS.nil | (apply HS.keep; (repeat (first | exact At.here | apply At.there))) | (apply HS.ro; (repeat (first | exact Rds.ro | exact Rds.own | apply Rds.there))))) (h := ?_)
              refine tk 0 (hy := mv) (h := ?_)
              refine tk 1 (hy := mv) (h := ?_)
              refine tk 2 (hy := mv) (h := ?_)
              refine tk 3 (hy := ix (A := z.A) (m := (opTil t d z.k).length) (hb := by omega)) (h := ?_)
              refine tk 4 (hy := (by first | exact fa | exact faE)) (h := ?_)
              refine tk 5 (hy := ldE (A := z.A) (hk := hoe)) (h := ?_)
              refine tk 6 (hy := ix (A := sA) (m := sg.length) (hb := by dsimp only [boV]; omega)) (h := ?_)
              refine tk 7 (hy := (by first | exact fa | exact faE)) (h := ?_)
              refine tk 8 (hy := ldEA (A := sA) (hk := hse)) (h := ?_)
              refine tk 9 (hy := mv) (h := ?_)
              refine tk 10 (hy := mv) (h := ?_)
              refine tk 11 (hy := mv) (h := ?_)
              refine tk 12 (hy := ix (A := z.A) (m := (opTil t d z.k).length) (hb := by omega)) (h := ?_)
              refine tk 13 (hy := (by first | exact fa | exact faE)) (h := ?_)
              refine tk 14 (hy := ldE (A := z.A) (hk := hoe)) (h := ?_)
              refine tk 15 (hy := ix (A := sA) (m := sg.length) (hb := by dsimp only [boV]; omega)) (h := ?_)
              refine tk 16 (hy := (by first | exact fa | exact faE)) (h := ?_)
              refine tk 17 (hy := ldE (A := sA) (hk := hse)) (h := ?_)
              refine tk 18 (hy := bd) (h := ?_)
              refine one 19 (h := ?_)
              refine al (h := fun bj => ?_)
              refine nx (h := ?_)
              refine one 20 (h := ?_)
              first | refine stA (h := ?_) | refine stEA (h := ?_)
              refine nx (h := ?_)
              refine dn (h := ?_)
              refine q_seq (h := ?_)
              refine sq (h := ?_)
              refine sq (h := ?_)
              refine WC.nilOwn 3 1 (h := ?_)
              refine rg (h := ?_)
              refine wy asg ?_
              refine WL.cut (by repeat (first | exact Cut.nil | apply Cut.hit | apply Cut.miss (by exact rfl))) ?_
              refine nl (h := ?_)
              refine q_seq (h := ?_)
              refine bk (h := ?_)
              refine lp (X := AnyZ) (I := fun v => v.k ≤ u.k ∧ v.es.length ≤ v.k) (le := fun v => [(2, .slice sA sg.length sc), (11, .slice z.A (opTil t d z.k).length z.c), (17, .slice u.A u.k u.c), (18, .int .i64 u.k), (19, .pointer (some ⟨bj, 0, none⟩)), (20, .int .i64 v.k)]) (Le := fun v => [.own v.A v.c 3 1 v.es.length v.es, .blk bj 80 [.int .i64 s.len.1, .int .i64 s.len.2, .slice v.A v.es.length v.c, .slice none 0 0, .int .i64 s.due, .int .i64 0], .own u.A u.c 80 6 u.k u.es, .own z.A z.c 50 4 (opTil t d z.k).length (encBo (opTil t d z.k)), .ro sA 3 sg.length (encStg sg)]) (μ := fun v => u.k - v.k) ⟨0, none, 0, []⟩ ⟨Nat.zero_le _, Nat.le_refl _⟩ sbz_ slz_ (fun v hv => ?_)
              obtain ⟨hv1, hv2⟩ := hv
              refine sq (h := ?_)
              refine sq (h := ?_)
              refine rg (h := ?_)
              refine wy mv ?_
              refine wy mv ?_
              refine wy lss ?_
              refine nl (h := ?_)
              refine q_seq (h := ?_)
              refine cd (by exact rfl) (fun h9 => ?_) (fun h9 => ?_)
              · skip
                have hvn : v.k < u.k := by have := of_decide_eq_true h9; omega
                obtain ⟨b', hb'⟩ : ∃ b', (opTil t d z.k)[v.k]? = some b' := ⟨_, List.getElem?_eq_getElem (by omega)⟩
                obtain ⟨r', p', hr', hp', rfl, -⟩ := hoM b' (List.mem_of_getElem? hb')
                have hoe' := encBo_at hb'
                have hpl' := szN_le (t := t) (by omega) r'
                refine skp (h := ?_)
                refine q_seq (h := ?_)
                refine sq (h := ?_)
                refine bk (h := ?_)
                refine sq (h := ?_)
                refine rgD (by kernel_rfl) [(1000000, .own z.A z.c 50 4 (opTil t d z.k).length (encBo (opTil t d z.k)))] (by repeat (first | exact HS.nil | (apply HS.keep; (repeat (first | exact At.here | apply At.there))) | (apply HS.ro; (repeat (first | exact Rds.ro | exact Rds.own | apply Rds.there))))) (h := ?_)
                refine tk 0 (hy := mv) (h := ?_)
                refine tk 1 (hy := mv) (h := ?_)
                refine tk 2 (hy := ix (A := z.A) (m := (opTil t d z.k).length) (hb := by omega)) (h := ?_)
                refine tk 3 (hy := (by first | exact fa | exact faE)) (h := ?_)
                refine tk 4 (hy := ldE (A := z.A) (hk := hoe')) (h := ?_)
                refine tk 5 (hy := mv) (h := ?_)
                refine tk 6 (hy := mv) (h := ?_)
                refine tk 7 (hy := ix (A := z.A) (m := (opTil t d z.k).length) (hb := by omega)) (h := ?_)
                refine tk 8 (hy := (by first | exact fa | exact faE)) (h := ?_)
                refine tk 9 (hy := ldE (A := z.A) (hk := hoe)) (h := ?_)
                refine tk 10 (hy := subI (hb := by dsimp only [boV]; omega)) (h := ?_)
                refine tk 11 (hy := eql) (h := ?_)
                refine tk 12 (hy := mv) (h := ?_)
                refine brH (g := 136) (by exact rfl) (fun hb10 => ?_) (fun hb10 => ?_)
                · skip
                  refine tk 13 (hy := mv) (h := ?_)
                  refine tk 14 (hy := mv) (h := ?_)
                  refine tk 15 (hy := ix (A := z.A) (m := (opTil t d z.k).length) (hb := by omega)) (h := ?_)
                  refine tk 16 (hy := (by first | exact fa | exact faE)) (h := ?_)
                  refine tk 17 (hy := ldE (A := z.A) (hk := hoe')) (h := ?_)
                  refine tk 18 (hy := quoI (hb := by dsimp only [boV]; omega)) (h := ?_)
                  refine tk 19 (hy := mv) (h := ?_)
                  refine tk 20 (hy := mv) (h := ?_)
                  refine tk 21 (hy := ix (A := z.A) (m := (opTil t d z.k).length) (hb := by omega)) (h := ?_)
                  refine tk 22 (hy := (by first | exact fa | exact faE)) (h := ?_)
                  refine tk 23 (hy := ldE (A := z.A) (hk := hoe)) (h := ?_)
                  refine tk 24 (hy := eql) (h := ?_)
                  refine tk 25 (hy := (by first | exact pkT | exact pkF)) (h := ?_)
                  refine dn (h := ?_)
                  refine q_seq (h := ?_)
                  refine cd (by exact rfl) (fun h11 => ?_) (fun h11 => ?_)
                  · skip
                    refine rg (h := ?_)
                    refine wy (by first | exact fa | exact faE) ?_
                    refine wy (by first | exact ld | exact ldE) ?_
                    refine wy mv ?_
                    refine bs (h := fun b2 => ?_)
                    refine ap (es := v.es) (m := v.es.length) (k := 1) (A := v.A) (c := v.c) (h := fun A2 c2 => ?_)
                    rw [show v.es.length + 1 = (v.es ++ [[Value.int .i64 v.k]]).length by rw [List.length_append]; rfl]
                    refine wy (by first | exact fa | exact faE) ?_
                    first | refine st (h := ?_) | refine stE (h := ?_)
                    refine nl (h := ?_)
                    refine q_blk_norm (h := ?_)
                    refine q_seq (h := ?_)
                    refine rg (h := ?_)
                    refine wy mv ?_
                    refine wy addI ?_
                    refine wy asg ?_
                    refine WL.cut (by repeat (first | exact Cut.nil | apply Cut.hit | apply Cut.miss (by exact rfl))) ?_
                    refine nl (h := ?_)
                    first
                      | (refine rn (x := v) ⟨v.k + 1, A2, c2, v.es ++ [[Value.int .i64 v.k]]⟩ ⟨hvn, by dsimp only; rw [List.length_append]; exact Nat.add_le_add_right hv2 1⟩ (by dsimp only; omega) sbz_ slz_; done)
                      | (refine rn (x := v) ⟨v.k + 1, v.A, v.c, v.es⟩ ⟨hvn, by dsimp only; omega⟩ (by dsimp only; omega) sbz_ slz_; done)
                  · skip
                    refine skp (h := ?_)
                    refine q_blk_norm (h := ?_)
                    refine q_seq (h := ?_)
                    refine rg (h := ?_)
                    refine wy mv ?_
                    refine wy addI ?_
                    refine wy asg ?_
                    refine WL.cut (by repeat (first | exact Cut.nil | apply Cut.hit | apply Cut.miss (by exact rfl))) ?_
                    refine nl (h := ?_)
                    first
                      | (refine rn (x := v) ⟨v.k + 1, A2, c2, v.es ++ [[Value.int .i64 v.k]]⟩ ⟨hvn, by dsimp only; rw [List.length_append]; exact Nat.add_le_add_right hv2 1⟩ (by dsimp only; omega) sbz_ slz_; done)
                      | (refine rn (x := v) ⟨v.k + 1, v.A, v.c, v.es⟩ ⟨hvn, by dsimp only; omega⟩ (by dsimp only; omega) sbz_ slz_; done)
                · skip
                  refine tkS 13 (h := ?_)
                  refine tkS 14 (h := ?_)
                  refine tkS 15 (h := ?_)
                  refine tkS 16 (h := ?_)
                  refine tkS 17 (h := ?_)
                  refine tkS 18 (h := ?_)
                  refine tkS 19 (h := ?_)
                  refine tkS 20 (h := ?_)
                  refine tkS 21 (h := ?_)
                  refine tkS 22 (h := ?_)
                  refine tkS 23 (h := ?_)
                  refine tkS 24 (h := ?_)
                  refine tk 25 (hy := (by first | exact pkT | exact pkF)) (h := ?_)
                  refine dn (h := ?_)
                  refine q_seq (h := ?_)
                  refine cdF (h := ?_)
                  refine skp (h := ?_)
                  refine q_blk_norm (h := ?_)
                  refine q_seq (h := ?_)
                  refine rg (h := ?_)
                  refine wy mv ?_
                  refine wy addI ?_
                  refine wy asg ?_
                  refine WL.cut (by repeat (first | exact Cut.nil | apply Cut.hit | apply Cut.miss (by exact rfl))) ?_
                  refine nl (h := ?_)
                  first
                    | (refine rn (x := v) ⟨v.k + 1, A2, c2, v.es ++ [[Value.int .i64 v.k]]⟩ ⟨hvn, by dsimp only; rw [List.length_append]; exact Nat.add_le_add_right hv2 1⟩ (by dsimp only; omega) sbz_ slz_; done)
                    | (refine rn (x := v) ⟨v.k + 1, v.A, v.c, v.es⟩ ⟨hvn, by dsimp only; omega⟩ (by dsimp only; omega) sbz_ slz_; done)
              · skip
                refine et (h := ?_)
                refine q_then_exit (h := ?_)
                refine q_then_exit (h := ?_)
                refine q_blk_hit (h := ?_)
                refine q_seq (h := ?_)
                refine rg (h := ?_)
                refine wy mv ?_
                refine wy (by first | exact ldA | exact ldEA) ?_
                refine bs (h := fun b3 => ?_)
                refine ap (es := u.es) (m := u.k) (k := 1) (A := u.A) (c := u.c) (h := fun A3 c3 => ?_)
                refine wy asg ?_
                refine WL.cut (by repeat (first | exact Cut.nil | apply Cut.hit | apply Cut.miss (by exact rfl))) ?_
                refine nl (h := ?_)
                refine q_blk_norm (h := ?_)
                refine q_seq (h := ?_)
                refine rg (h := ?_)
                refine wy mv ?_
                refine wy addI ?_
                refine wy asg ?_
                refine WL.cut (by repeat (first | exact Cut.nil | apply Cut.hit | apply Cut.miss (by exact rfl))) ?_
                refine nl (h := ?_)
                refine rn (x := u) ⟨u.k + 1, A3, c3, _⟩ hun (by dsimp only; omega) sbz_ slz_
            · skip
              have hun : u.k = (opTil t d z.k).length := by have := of_decide_eq_false h8; omega
              refine et (h := ?_)
              refine q_then_exit (h := ?_)
              refine q_then_exit (h := ?_)
              refine q_blk_hit (h := ?_)
              refine q_seq (h := ?_)
              refine sq (h := ?_)
              refine rg (h := ?_)
              refine wy mv ?_
              refine wy mv ?_
              refine wy asg ?_
              refine WL.cut (by repeat (first | exact Cut.nil | apply Cut.hit | apply Cut.miss (by exact rfl))) ?_
              refine wy asg ?_
              refine WL.cut (by repeat (first | exact Cut.nil | apply Cut.hit | apply Cut.miss (by exact rfl))) ?_
              refine wy asg ?_
              refine WL.cut (by repeat (first | exact Cut.nil | apply Cut.hit | apply Cut.miss (by exact rfl))) ?_
              refine nl (h := ?_)
              refine q_seq (h := ?_)
              refine rtn (h := ?_)
              refine q_ret (hR := ?_)
              exact fun w hS => ⟨⟨u.A, u.k, u.c, z.A, (opTil t d z.k).length, z.c, 0⟩, fun _ => ⟨d, ha, hst, by dsimp only; rw [hun, hfin], by dsimp only; omega⟩, rfl, hS.sub .nil⟩
end Go.Proofs.YtmlhnajgiopfgaaGreat

namespace Go.Proofs.YtmlhnajgiopfgaaGreat
open Go Go.RowKit

theorem C_ref8_withinT (n lo hi : Int) (h : lo ≤ n ∧ n ≤ hi) (w : World) : C0 Tryz.prog 21 [.int .i64 n, .int .i64 lo, .int .i64 hi] w (.bool true) := by
  have := C_ref8_within n lo hi w
  rwa [win_iff.2 h] at this
theorem C_ref8_isLengthT (s : Sn) (h : 1 ≤ s.1 ∧ s.1 ≤ s.2 ∧ s.2 ≤ 600) (w : World) : C0 Tryz.prog 20 [.agg #[.int .i64 s.1, .int .i64 s.2]] w (.bool true) := by
  have := C_ref8_isLength s w
  rwa [lenB8_iff.2 h] at this
set_option maxRecDepth 100000 in
set_option maxHeartbeats 1000000 in
theorem C_ref8_isJobV (j : Jb) (i m : Nat) (hJ : JOk m i j) (hw0 : j.wi = []) (hi : i ≤ 1000000) (hfn : j.af.length ≤ 9223372036854775807) (w : World) (hf : Rd w j.fA 1 j.af.length (enI j.af)) :
    C0 Tryz.prog 29 [.agg j.cells.toArray, .int .i64 i, .int .i64 m] w (.bool true) := by
  have hlen := hJ.len
  have hdue := hJ.due
  have hear := hJ.ear
  have hwl : j.wi.length = 0 := by rw [hw0]; rfl
  refine ⟨en Tryz.func29 Tryz.ntmps29 ((St.init w).share (e := .ro j.fA 1 j.af.length (enI j.af)) hf rfl rfl rfl) (h := fun F => ?_)⟩
  refine sq (h := ?_)
  refine rg (h := ?_)
  refine bxA (h := fun b0 => ?_)
  refine wy asg ?_
  refine WL.cut (by repeat (first | exact Cut.nil | apply Cut.hit | apply Cut.miss (by exact rfl))) ?_
  refine nl (h := ?_)
  refine q_seq (h := ?_)
  refine sq (h := ?_)
  refine sq (h := ?_)
  refine rg (h := ?_)
  refine wy (by first | exact fa | exact faE) ?_
  refine wy (by first | exact ldA | exact ldEA) ?_
  refine cl0 (hc := fun w hS => C_ref8_isLengthT j.len hlen w) (h := ?_)
  refine wy notB ?_
  refine wy mv ?_
  refine un (h := ?_)
  refine wy (by first | exact fa | exact faE) ?_
  refine un (h := ?_)
  refine wy (by first | exact ld | exact ldE) ?_
  refine un (h := ?_)
  refine cl0 (hc := fun w hS => C_ref8_withinT j.due 0 2 hdue w) (h := ?_)
  refine un (h := ?_)
  refine wy notB ?_
  refine wy (by first | exact pkT | exact pkF) ?_
  refine wy mv ?_
  refine un (h := ?_)
  refine wy (by first | exact fa | exact faE) ?_
  refine un (h := ?_)
  refine wy (by first | exact ld | exact ldE) ?_
  refine un (h := ?_)
  refine cl0 (hc := fun w hS => C_ref8_withinT j.ear 0 1440 hear w) (h := ?_)
  refine un (h := ?_)
  refine wy notB ?_
  refine wy (by first | exact pkT | exact pkF) ?_
  refine nl (h := ?_)
  refine q_seq (h := ?_)
  refine cdF (h := ?_)
  refine skp (h := ?_)
  refine q_seq (h := ?_)
  refine sq (h := ?_)
  refine sq (h := ?_)
  refine rg (h := ?_)
  refine wy asg ?_
  refine WL.cut (by repeat (first | exact Cut.nil | apply Cut.hit | apply Cut.miss (by exact rfl))) ?_
  refine nl (h := ?_)
  refine q_seq (h := ?_)
  refine bk (h := ?_)
  refine lp (X := Nat) (I := fun k => k ≤ j.af.length) (le := fun k => [(1, .int .i64 i), (2, .int .i64 m), (3, .pointer (some ⟨b0, 0, none⟩)), (7, .int .i64 k)]) (Le := fun _ => [.blk b0 80 j.cells, .ro j.fA 1 j.af.length (enI j.af)]) (μ := fun k => j.af.length - k) 0 (Nat.zero_le _) sbz_ slz_ (fun k hk => ?_)
  refine sq (h := ?_)
  refine sq (h := ?_)
  refine rg (h := ?_)
  refine wy mv ?_
  refine wy (by first | exact fa | exact faE) ?_
  refine wy (by first | exact ld | exact ldE) ?_
  refine wy lenS ?_
  refine wy lss ?_
  refine nl (h := ?_)
  refine q_seq (h := ?_)
  refine cd (by exact rfl) (fun h1 => ?_) (fun h1 => ?_)
  · skip
    have hkn : k < j.af.length := by have := of_decide_eq_true h1; omega
    obtain ⟨x, hx⟩ : ∃ x, j.af[k]? = some x := ⟨_, List.getElem?_eq_getElem hkn⟩
    have hxe := enI_at hx
    have hxr := hJ.af k x hkn hx
    refine skp (h := ?_)
    refine q_seq (h := ?_)
    refine sq (h := ?_)
    refine bk (h := ?_)
    refine sq (h := ?_)
    refine rgD (by kernel_rfl) [(1000000, .blk b0 80 j.cells), (1000000, .ro j.fA 1 j.af.length (enI j.af))] (by repeat (first | exact HS.nil | (apply HS.keep; (repeat (first | exact At.here | apply At.there))) | (apply HS.ro; (repeat (first | exact Rds.ro | exact Rds.own | apply Rds.there))))) (h := ?_)
    refine tk 0 (hy := (by first | exact fa | exact faE)) (h := ?_)
    refine tk 1 (hy := (by first | exact ld | exact ldE)) (h := ?_)
    refine tk 2 (hy := mv) (h := ?_)
    refine tk 3 (hy := ix (A := j.fA) (m := j.af.length) (hb := by omega)) (h := ?_)
    refine tk 4 (hy := ldE (A := j.fA) (hk := hxe)) (h := ?_)
    refine tk 5 (hy := mv) (h := ?_)
    refine tk 6 (hy := subI (hb := by omega)) (h := ?_)
    refine one 7 (h := ?_)
    refine cl0 (hc := fun w hS => C_ref8_withinT x 0 ((i : Int) - 1) (by omega) w) (h := ?_)
    refine nx (h := ?_)
    refine tk 8 (hy := notB) (h := ?_)
    refine tk 9 (hy := mv) (h := ?_)
    refine tk 10 (hy := mv) (h := ?_)
    refine tk 11 (hy := gtr) (h := ?_)
    refine tk 12 (hy := mv) (h := ?_)
    refine brH (g := 44) (by exact rfl) (fun hb2 => ?_) (fun hb2 => ?_)
    · skip
      have hk0 : 0 < k := by have := of_decide_eq_true hb2; omega
      obtain ⟨y, hy⟩ : ∃ y, j.af[k - 1]? = some y := ⟨_, List.getElem?_eq_getElem (by omega)⟩
      have hye : (enI j.af)[((k : Int) - 1).toNat]? = some [.int .i64 y] := by rw [show ((k : Int) - 1).toNat = k - 1 by omega]; exact enI_at hy
      have hyx := hxr.2.2 y hk0 hy
      refine tk 13 (hy := (by first | exact fa | exact faE)) (h := ?_)
      refine tk 14 (hy := (by first | exact ld | exact ldE)) (h := ?_)
      refine tk 15 (hy := mv) (h := ?_)
      refine tk 16 (hy := ix (A := j.fA) (m := j.af.length) (hb := by omega)) (h := ?_)
      refine tk 17 (hy := ldE (A := j.fA) (hk := hxe)) (h := ?_)
      refine tk 18 (hy := (by first | exact fa | exact faE)) (h := ?_)
      refine tk 19 (hy := (by first | exact ld | exact ldE)) (h := ?_)
      refine tk 20 (hy := mv) (h := ?_)
      refine tk 21 (hy := subI (hb := by omega)) (h := ?_)
      refine tk 22 (hy := ix (A := j.fA) (m := j.af.length) (hb := by omega)) (h := ?_)
      refine tk 23 (hy := ldE (A := j.fA) (hk := hye)) (h := ?_)
      refine tk 24 (hy := (Yd.fl (leq) (by exact decide_eq_false (by omega)))) (h := ?_)
      refine tk 25 (hy := (by first | exact pkT | exact pkF)) (h := ?_)
      refine tk 26 (hy := (by first | exact pkT | exact pkF)) (h := ?_)
      refine dn (h := ?_)
      refine q_seq (h := ?_)
      refine cdF (h := ?_)
      refine skp (h := ?_)
      refine q_blk_norm (h := ?_)
      refine q_seq (h := ?_)
      refine rg (h := ?_)
      refine wy mv ?_
      refine wy addI ?_
      refine wy asg ?_
      refine WL.cut (by repeat (first | exact Cut.nil | apply Cut.hit | apply Cut.miss (by exact rfl))) ?_
      refine nl (h := ?_)
      refine rn (x := k) (k + 1) hkn (by omega) sbz_ slz_
    · skip
      refine tkS 13 (h := ?_)
      refine tkS 14 (h := ?_)
      refine tkS 15 (h := ?_)
      refine tkS 16 (h := ?_)
      refine tkS 17 (h := ?_)
      refine tkS 18 (h := ?_)
      refine tkS 19 (h := ?_)
      refine tkS 20 (h := ?_)
      refine tkS 21 (h := ?_)
      refine tkS 22 (h := ?_)
      refine tkS 23 (h := ?_)
      refine tkS 24 (h := ?_)
      refine tk 25 (hy := (by first | exact pkT | exact pkF)) (h := ?_)
      refine tk 26 (hy := (by first | exact pkT | exact pkF)) (h := ?_)
      refine dn (h := ?_)
      refine q_seq (h := ?_)
      refine cdF (h := ?_)
      refine skp (h := ?_)
      refine q_blk_norm (h := ?_)
      refine q_seq (h := ?_)
      refine rg (h := ?_)
      refine wy mv ?_
      refine wy addI ?_
      refine wy asg ?_
      refine WL.cut (by repeat (first | exact Cut.nil | apply Cut.hit | apply Cut.miss (by exact rfl))) ?_
      refine nl (h := ?_)
      refine rn (x := k) (k + 1) hkn (by omega) sbz_ slz_
  · skip
    have hkn : k = j.af.length := by have := of_decide_eq_false h1; omega
    refine et (h := ?_)
    refine q_then_exit (h := ?_)
    refine q_then_exit (h := ?_)
    refine q_blk_hit (h := ?_)
    refine q_seq (h := ?_)
    refine sq (h := ?_)
    refine sq (h := ?_)
    refine rg (h := ?_)
    refine wy asg ?_
    refine WL.cut (by repeat (first | exact Cut.nil | apply Cut.hit | apply Cut.miss (by exact rfl))) ?_
    refine nl (h := ?_)
    refine q_seq (h := ?_)
    refine bk (h := ?_)
    refine lp (X := Nat) (I := fun k => k = 0) (le := fun k => [(1, .int .i64 i), (2, .int .i64 m), (3, .pointer (some ⟨b0, 0, none⟩)), (8, .int .i64 k)]) (Le := fun _ => [.blk b0 80 j.cells]) (μ := fun k => 0) 0 rfl sbz_ slz_ (fun k hk => ?_)
    refine sq (h := ?_)
    refine sq (h := ?_)
    refine rg (h := ?_)
    refine wy mv ?_
    refine wy (by first | exact fa | exact faE) ?_
    refine wy (by first | exact ld | exact ldE) ?_
    refine wy lenS ?_
    refine wy lss ?_
    refine nl (h := ?_)
    refine q_seq (h := ?_)
    refine cd (by exact rfl) (fun h5 => ?_) (fun h5 => ?_)
    · skip
      exfalso
      have := of_decide_eq_true h5
      omega
    · skip
      refine et (h := ?_)
      refine q_then_exit (h := ?_)
      refine q_then_exit (h := ?_)
      refine q_blk_hit (h := ?_)
      refine q_seq (h := ?_)
      refine sq (h := ?_)
      refine rg (h := ?_)
      refine wy asg ?_
      refine WL.cut (by repeat (first | exact Cut.nil | apply Cut.hit | apply Cut.miss (by exact rfl))) ?_
      refine nl (h := ?_)
      refine q_seq (h := ?_)
      refine rtn (h := ?_)
      refine q_ret (hR := ?_)
      exact fun w hS => ⟨rfl, hS.sub slz_⟩
set_option maxRecDepth 100000 in
set_option maxHeartbeats 1000000 in
theorem C_ref8_CheckV (p : Pg) (hp : POk p) (hw0 : ∀ j ∈ p.jobs, j.wi = []) (w : World) (h : PgR w p) : C0 Tryz.prog 8 [p.val] w (.int .i64 0) := by
  have hn := h.nums
  have hnd := hp.nd
  have hnc := hp.nc
  have hre := hp.rest
  have hnj := hp.nj
  obtain ⟨d0, hd0⟩ : ∃ d, p.days[0]? = some d := ⟨_, List.getElem?_eq_getElem (by omega)⟩
  have hn0 := nc_first hd0
  refine ⟨en Tryz.func8 Tryz.ntmps8 (((St.init w).share (e := .ro p.dA 1 p.days.length (encDy p.days)) h.d rfl rfl rfl).share (e := .ro p.jA 6 p.jobs.length (encJb p.jobs)) h.j rfl rfl rfl) (h := fun F => ?_)⟩
  refine sq (h := ?_)
  refine rg (h := ?_)
  refine bxA (h := fun b0 => ?_)
  refine wy asg ?_
  refine WL.cut (by repeat (first | exact Cut.nil | apply Cut.hit | apply Cut.miss (by exact rfl))) ?_
  refine nl (h := ?_)
  refine q_seq (h := ?_)
  refine sq (h := ?_)
  refine sq (h := ?_)
  refine rg (h := ?_)
  refine wy (by first | exact fa | exact faE) ?_
  refine wy (by first | exact ld | exact ldE) ?_
  refine wy lenS ?_
  refine cl0 (hc := fun w hS => C_ref8_withinT p.days.length 1 3 (by omega) w) (h := ?_)
  refine wy notB ?_
  refine wy mv ?_
  refine un (h := ?_)
  refine wy (by first | exact fa | exact faE) ?_
  refine un (h := ?_)
  refine wy (by first | exact ld | exact ldE) ?_
  refine un (h := ?_)
  refine wy (ix (A := p.dA) (m := p.days.length) (hb := by omega)) ?_
  refine un (h := ?_)
  refine wy (ldE (A := p.dA) (k := 0) (hk := encDy_at hd0)) ?_
  refine un (h := ?_)
  refine wy lenS ?_
  rw [hn0]
  refine un (h := ?_)
  refine cl0 (hc := fun w hS => C_ref8_withinT p.nc 1 3 (by omega) w) (h := ?_)
  refine un (h := ?_)
  refine wy notB ?_
  refine wy (by first | exact pkT | exact pkF) ?_
  refine wy mv ?_
  refine un (h := ?_)
  refine wy (by first | exact fa | exact faE) ?_
  refine un (h := ?_)
  refine wy (by first | exact ld | exact ldE) ?_
  refine un (h := ?_)
  refine cl0 (hc := fun w hS => C_ref8_withinT p.rest 0 600 hre w) (h := ?_)
  refine un (h := ?_)
  refine wy notB ?_
  refine wy (by first | exact pkT | exact pkF) ?_
  refine wy mv ?_
  refine un (h := ?_)
  refine wy (by first | exact fa | exact faE) ?_
  refine un (h := ?_)
  refine wy (by first | exact ld | exact ldE) ?_
  refine un (h := ?_)
  refine wy lenS ?_
  refine un (h := ?_)
  refine wy ((Yd.fl (gtr) (by exact decide_eq_false (by omega)))) ?_
  refine wy (by first | exact pkT | exact pkF) ?_
  refine nl (h := ?_)
  refine q_seq (h := ?_)
  refine cdF (h := ?_)
  refine skp (h := ?_)
  refine q_seq (h := ?_)
  refine sq (h := ?_)
  refine sq (h := ?_)
  refine rg (h := ?_)
  refine wy asg ?_
  refine WL.cut (by repeat (first | exact Cut.nil | apply Cut.hit | apply Cut.miss (by exact rfl))) ?_
  refine nl (h := ?_)
  refine q_seq (h := ?_)
  refine bk (h := ?_)
  refine lp (X := Nat) (I := fun k => k ≤ p.days.length) (le := fun k => [(1, .pointer (some ⟨b0, 0, none⟩)), (3, .int .i64 k)]) (Le := fun _ => [.blk b0 39 p.cells, .ro p.dA 1 p.days.length (encDy p.days), .ro p.jA 6 p.jobs.length (encJb p.jobs)]) (μ := fun k => p.days.length - k) 0 (Nat.zero_le _) sbz_ slz_ (fun k hk => ?_)
  refine sq (h := ?_)
  refine sq (h := ?_)
  refine rg (h := ?_)
  refine wy mv ?_
  refine wy (by first | exact fa | exact faE) ?_
  refine wy (by first | exact ld | exact ldE) ?_
  refine wy lenS ?_
  refine wy lss ?_
  refine nl (h := ?_)
  refine q_seq (h := ?_)
  refine cd (by exact rfl) (fun h1 => ?_) (fun h1 => ?_)
  · skip
    have hkn : k < p.days.length := by have := of_decide_eq_true h1; omega
    obtain ⟨d, hd⟩ : ∃ d, p.days[k]? = some d := ⟨_, List.getElem?_eq_getElem hkn⟩
    have hdm := List.mem_of_getElem? hd
    obtain ⟨hdl, hds⟩ := hp.dy k d hkn hd
    refine skp (h := ?_)
    refine q_seq (h := ?_)
    refine sq (h := ?_)
    refine bk (h := ?_)
    refine sq (h := ?_)
    refine sq (h := ?_)
    refine rgD (by kernel_rfl) [(1000000, .blk b0 39 p.cells), (1000000, .ro p.dA 1 p.days.length (encDy p.days))] (by repeat (first | exact HS.nil | (apply HS.keep; (repeat (first | exact At.here | apply At.there))) | (apply HS.ro; (repeat (first | exact Rds.ro | exact Rds.own | apply Rds.there))))) (h := ?_)
    refine tk 0 (hy := (by first | exact fa | exact faE)) (h := ?_)
    refine tk 1 (hy := (by first | exact ld | exact ldE)) (h := ?_)
    refine tk 2 (hy := mv) (h := ?_)
    refine tk 3 (hy := ix (A := p.dA) (m := p.days.length) (hb := by omega)) (h := ?_)
    refine tk 4 (hy := ldE (A := p.dA) (hk := encDy_at hd)) (h := ?_)
    refine tk 5 (hy := lenS) (h := ?_)
    refine tk 6 (hy := (by first | exact fa | exact faE)) (h := ?_)
    refine tk 7 (hy := (by first | exact ld | exact ldE)) (h := ?_)
    refine tk 8 (hy := ix (A := p.dA) (m := p.days.length) (hb := by omega)) (h := ?_)
    refine tk 9 (hy := ldE (A := p.dA) (k := 0) (hk := encDy_at hd0)) (h := ?_)
    refine tk 10 (hy := lenS) (h := ?_)
    refine tk 11 (hy := (Yd.fl (neq) (by rw [hdl, hn0, decide_eq_true rfl]; rfl))) (h := ?_)
    refine dn (h := ?_)
    refine q_seq (h := ?_)
    refine cdF (h := ?_)
    refine skp (h := ?_)
    refine q_seq (h := ?_)
    refine sq (h := ?_)
    refine WC.old (h.s d hdm) ?_
    refine rg (h := ?_)
    refine wy asg ?_
    refine WL.cut (by repeat (first | exact Cut.nil | apply Cut.hit | apply Cut.miss (by exact rfl))) ?_
    refine nl (h := ?_)
    refine q_seq (h := ?_)
    refine bk (h := ?_)
    refine lp (X := Nat) (I := fun i => i ≤ d.sp.length) (le := fun i => [(1, .pointer (some ⟨b0, 0, none⟩)), (3, .int .i64 k), (4, .int .i64 i)]) (Le := fun _ => [.blk b0 39 p.cells, .ro p.dA 1 p.days.length (encDy p.days), .ro p.jA 6 p.jobs.length (encJb p.jobs), .ro d.A 2 d.sp.length (encSn d.sp)]) (μ := fun i => d.sp.length - i) 0 (Nat.zero_le _) sbz_ slz_ (fun i hi => ?_)
    refine sq (h := ?_)
    refine sq (h := ?_)
    refine rg (h := ?_)
    refine wy mv ?_
    refine wy (by first | exact fa | exact faE) ?_
    refine wy (by first | exact ld | exact ldE) ?_
    refine wy mv ?_
    refine wy (ix (A := p.dA) (m := p.days.length) (hb := by omega)) ?_
    refine wy (ldE (A := p.dA) (hk := encDy_at hd)) ?_
    refine wy lenS ?_
    refine wy lss ?_
    refine nl (h := ?_)
    refine q_seq (h := ?_)
    refine cd (by exact rfl) (fun h3 => ?_) (fun h3 => ?_)
    · skip
      have hin : i < d.sp.length := by have := of_decide_eq_true h3; omega
      obtain ⟨s, hs⟩ : ∃ s, d.sp[i]? = some s := ⟨_, List.getElem?_eq_getElem hin⟩
      have hsr := hds i s hin hs
      refine skp (h := ?_)
      refine q_seq (h := ?_)
      refine sq (h := ?_)
      refine bk (h := ?_)
      refine sq (h := ?_)
      refine rg (h := ?_)
      refine wy (by first | exact fa | exact faE) ?_
      refine wy (by first | exact ld | exact ldE) ?_
      refine wy mv ?_
      refine wy (ix (A := p.dA) (m := p.days.length) (hb := by omega)) ?_
      refine wy (ldE (A := p.dA) (hk := encDy_at hd)) ?_
      refine wy mv ?_
      refine wy (ix (A := d.A) (m := d.sp.length) (hb := by omega)) ?_
      refine wy (ldEW (A := d.A) (hk := encSn_at hs)) ?_
      refine al (h := fun b1 => ?_)
      first | refine stA (h := ?_) | refine stEA (h := ?_)
      refine nl (h := ?_)
      refine q_seq (h := ?_)
      refine sq (h := ?_)
      refine rg (h := ?_)
      refine wy (by first | exact fa | exact faE) ?_
      refine wy (by first | exact ld | exact ldE) ?_
      refine wy ((Yd.fl (lss) (by exact decide_eq_false (by omega)))) ?_
      refine wy mv ?_
      refine un (h := ?_)
      refine wy (by first | exact fa | exact faE) ?_
      refine un (h := ?_)
      refine wy (by first | exact ld | exact ldE) ?_
      refine un (h := ?_)
      refine wy (by first | exact fa | exact faE) ?_
      refine un (h := ?_)
      refine wy (by first | exact ld | exact ldE) ?_
      refine un (h := ?_)
      refine wy ((Yd.fl (gtr) (by exact decide_eq_false (by omega)))) ?_
      refine wy (by first | exact pkT | exact pkF) ?_
      refine wy mv ?_
      refine un (h := ?_)
      refine wy (by first | exact fa | exact faE) ?_
      refine un (h := ?_)
      refine wy (by first | exact ld | exact ldE) ?_
      refine un (h := ?_)
      refine wy ((Yd.fl (gtr) (by exact decide_eq_false (by omega)))) ?_
      refine wy (by first | exact pkT | exact pkF) ?_
      refine nl (h := ?_)
      refine q_seq (h := ?_)
      refine cdF (h := ?_)
      refine skp (h := ?_)
      refine q_blk_norm (h := ?_)
      refine q_seq (h := ?_)
      refine rg (h := ?_)
      refine wy mv ?_
      refine wy addI ?_
      refine wy asg ?_
      refine WL.cut (by repeat (first | exact Cut.nil | apply Cut.hit | apply Cut.miss (by exact rfl))) ?_
      refine nl (h := ?_)
      refine rn (x := i) (i + 1) hin (by omega) sbz_ slz_
    · skip
      have hin : i = d.sp.length := by have := of_decide_eq_false h3; omega
      refine et (h := ?_)
      refine q_then_exit (h := ?_)
      refine q_then_exit (h := ?_)
      refine q_blk_hit (h := ?_)
      refine q_blk_norm (h := ?_)
      refine q_seq (h := ?_)
      refine rg (h := ?_)
      refine wy mv ?_
      refine wy addI ?_
      refine wy asg ?_
      refine WL.cut (by repeat (first | exact Cut.nil | apply Cut.hit | apply Cut.miss (by exact rfl))) ?_
      refine nl (h := ?_)
      refine rn (x := k) (k + 1) hkn (by omega) sbz_ slz_
  · skip
    have hkn : k = p.days.length := by have := of_decide_eq_false h1; omega
    refine et (h := ?_)
    refine q_then_exit (h := ?_)
    refine q_then_exit (h := ?_)
    refine q_blk_hit (h := ?_)
    refine q_seq (h := ?_)
    refine sq (h := ?_)
    refine sq (h := ?_)
    refine rg (h := ?_)
    refine wy asg ?_
    refine WL.cut (by repeat (first | exact Cut.nil | apply Cut.hit | apply Cut.miss (by exact rfl))) ?_
    refine nl (h := ?_)
    refine q_seq (h := ?_)
    refine bk (h := ?_)
    refine lp (X := Nat) (I := fun k => k ≤ p.jobs.length) (le := fun k => [(1, .pointer (some ⟨b0, 0, none⟩)), (6, .int .i64 k)]) (Le := fun _ => [.blk b0 39 p.cells, .ro p.jA 6 p.jobs.length (encJb p.jobs)]) (μ := fun k => p.jobs.length - k) 0 (Nat.zero_le _) sbz_ slz_ (fun k hk => ?_)
    refine sq (h := ?_)
    refine sq (h := ?_)
    refine rg (h := ?_)
    refine wy mv ?_
    refine wy (by first | exact fa | exact faE) ?_
    refine wy (by first | exact ld | exact ldE) ?_
    refine wy lenS ?_
    refine wy lss ?_
    refine nl (h := ?_)
    refine q_seq (h := ?_)
    refine cd (by exact rfl) (fun h5 => ?_) (fun h5 => ?_)
    · skip
      have hkn : k < p.jobs.length := by have := of_decide_eq_true h5; omega
      obtain ⟨j, hj⟩ : ∃ j, p.jobs[k]? = some j := ⟨_, List.getElem?_eq_getElem hkn⟩
      have hjm := List.mem_of_getElem? hj
      refine skp (h := ?_)
      refine q_seq (h := ?_)
      refine sq (h := ?_)
      refine bk (h := ?_)
      refine sq (h := ?_)
      refine WC.old (h.f j hjm) ?_
      refine rgD (by kernel_rfl) [(1000000, .blk b0 39 p.cells), (1000000, .ro p.jA 6 p.jobs.length (encJb p.jobs))] (by repeat (first | exact HS.nil | (apply HS.keep; (repeat (first | exact At.here | apply At.there))) | (apply HS.ro; (repeat (first | exact Rds.ro | exact Rds.own | apply Rds.there))))) (h := ?_)
      refine tk 0 (hy := (by first | exact fa | exact faE)) (h := ?_)
      refine tk 1 (hy := (by first | exact ld | exact ldE)) (h := ?_)
      refine tk 2 (hy := mv) (h := ?_)
      refine tk 3 (hy := ix (A := p.jA) (m := p.jobs.length) (hb := by omega)) (h := ?_)
      refine tk 4 (hy := ldEW (A := p.jA) (hk := encJb_at hj)) (h := ?_)
      refine tk 5 (hy := mv) (h := ?_)
      refine tk 6 (hy := (by first | exact fa | exact faE)) (h := ?_)
      refine tk 7 (hy := (by first | exact ld | exact ldE)) (h := ?_)
      refine tk 8 (hy := lenS) (h := ?_)
      refine one 9 (h := ?_)
      refine cl0 (hc := fun w hS => C_ref8_isJobV j k p.jobs.length (hp.jb k j hkn hj) (hw0 j hjm) (by omega) (hn.fn j hjm) w (hS.get rdz_)) (h := ?_)
      refine nx (h := ?_)
      refine tk 10 (hy := notB) (h := ?_)
      refine dn (h := ?_)
      refine q_seq (h := ?_)
      refine cdF (h := ?_)
      refine skp (h := ?_)
      refine q_blk_norm (h := ?_)
      refine q_seq (h := ?_)
      refine rg (h := ?_)
      refine wy mv ?_
      refine wy addI ?_
      refine wy asg ?_
      refine WL.cut (by repeat (first | exact Cut.nil | apply Cut.hit | apply Cut.miss (by exact rfl))) ?_
      refine nl (h := ?_)
      refine rn (x := k) (k + 1) hkn (by omega) sbz_ slz_
    · skip
      have hkn : k = p.jobs.length := by have := of_decide_eq_false h5; omega
      refine et (h := ?_)
      refine q_then_exit (h := ?_)
      refine q_then_exit (h := ?_)
      refine q_blk_hit (h := ?_)
      refine q_seq (h := ?_)
      refine sq (h := ?_)
      refine rg (h := ?_)
      refine wy asg ?_
      refine WL.cut (by repeat (first | exact Cut.nil | apply Cut.hit | apply Cut.miss (by exact rfl))) ?_
      refine nl (h := ?_)
      refine q_seq (h := ?_)
      refine rtn (h := ?_)
      refine q_ret (hR := ?_)
      exact fun w hS => ⟨rfl, hS.sub slz_⟩
end Go.Proofs.YtmlhnajgiopfgaaGreat

namespace Go.Proofs.YtmlhnajgiopfgaaGreat
open Go Go.RowKit

section
variable {F : Fence} {P : Program} {ops : Array Oper} {Q : Exit → Act → World → Prop} {rest : List Oper} {n : Nat} {D : List Deferred} {l : Env} {w0 : World} {L M : List Ent}
variable {d : Nat} {ty : TypeId} {pos : String} {aft : Array Edge}

theorem Tk.all {α : Type} : ∀ cs : List α, Tk cs 0 cs.length cs
  | [] => .nil
  | _ :: cs => .cons (Tk.all cs)
end
end Go.Proofs.YtmlhnajgiopfgaaGreat

namespace Go.Proofs.YtmlhnajgiopfgaaGreat
open Go Go.RowKit

def Stm (es : Array MapEntry) (c : Nat) : Prop := (es.toList.map (·.born)).Nodup ∧ ∀ e ∈ es.toList, e.born < c
theorem stm0 : Stm #[] 0 := ⟨List.nodup_nil, fun e he => by simp at he⟩
theorem stm_push {es : Array MapEntry} {c : Nat} (h : Stm es c) (k v : Value) : Stm (es.push { key := k, val := v, born := c }) (c + 1) := by
  constructor
  · rw [Array.toList_push, List.map_append, List.map_cons, List.map_nil, List.nodup_append]
    refine ⟨h.1, List.nodup_cons.2 ⟨by simp, List.nodup_nil⟩, fun a ha b hb => ?_⟩
    obtain ⟨e, he, rfl⟩ := List.mem_map.1 ha
    rw [List.mem_singleton] at hb
    have h3 := h.2 e he
    rw [hb]
    intro e2
    exact absurd e2 (Nat.ne_of_lt h3)
  · intro e he
    rw [Array.toList_push, List.mem_append, List.mem_singleton] at he
    rcases he with he | rfl
    · have := h.2 e he; omega
    · exact Nat.lt_succ_self _
theorem stm_mod {es : Array MapEntry} {c : Nat} (h : Stm es c) (j : Nat) (k v : Value) : Stm (es.modify j fun e => { e with key := k, val := v }) c := by
  have hb : (es.modify j fun e => { e with key := k, val := v }).toList.map (·.born) = es.toList.map (·.born) := by
    rw [Array.toList_modify]
    refine List.ext_getElem? fun i => ?_
    rw [List.getElem?_map, List.getElem?_map, List.getElem?_modify]
    by_cases e : j = i
    · subst e; simp only [if_pos]; cases es.toList[j]? <;> rfl
    · simp only [if_neg e]; cases es.toList[i]? <;> rfl
  refine ⟨by rw [hb]; exact h.1, fun e he => ?_⟩
  have : e.born ∈ es.toList.map (·.born) := hb ▸ List.mem_map.2 ⟨e, he, rfl⟩
  obtain ⟨e', he', e2⟩ := List.mem_map.1 this
  have := h.2 e' he'
  omega

section rules
variable {F : Fence} {P : Program} {ops : Array Oper} {Q : Exit → Act → World → Prop} {rest : List Oper} {n : Nat} {D : List Deferred} {l : Env} {w0 : World} {L M : List Ent}
variable {d : Nat} {ty : TypeId} {pos : String} {aft : Array Edge}

theorem run_updateS {t kt e : TypeId} {ks : List Bool} (hT : MapTy P t kt e) (hK : FlatTy P kt ks) {w : World} {b : Nat} {es : Array MapEntry} {c : Nat} (hb : w.heap[b]? = some (.map es c)) {kv : List (List Fl × Value)} (hm : MapIs es kv) (hs : ∀ p ∈ kv, shapeOf p.1 = ks) {k : List Fl} (hk : shapeOf k = ks) (v : Value) (hst0 : Stm es c) :
    ∃ es' c', (Instr.mapUpdate t (.map (some b)) (.agg (fv k).toArray) v).run P w = .ok () (w.putObj b (.map es' c')) ∧ MapIs es' (updM kv k v) ∧ Stm es' c' := by
  obtain ⟨r, hr, hc⟩ := run_findKey hK hk es.toList kv w hm hs
  have hck := fun em => checkKeyF em 8 kt ks hK.flt 9992 k w hk
  simp only [fval, hK.agg, cond_true] at hck
  have hck' : ∀ em, (Instr.checkKey em 10000 kt (.agg (fv k).toArray)).run P w = .ok () w := hck
  unfold Instr.mapUpdate
  simp only [Sem.run_bind, run_underlying hT.und, Result.andThen_ok, getMap hb, Sem.run_pure, hck', hr]
  rcases hc with ⟨rfl, h1, h2⟩ | ⟨j, u, e', rfl, h1, h3, h4, h5⟩
  · refine ⟨_, _, putMap _ hb, ?_, stm_push hst0 _ _⟩
    have hm' : es.toList.map (fun e => (e.key, e.val)) = kv.map fun p => (Value.agg (fv p.1).toArray, p.2) := hm
    simp only [MapIs, h2, Array.toList_push, List.map_append, hm', List.map_cons, List.map_nil]
  · have hj : es[j]? = some e' := by simpa using h3
    have hjl : j < es.size := (Array.getElem?_eq_some_iff.1 hj).1
    have hst : (Instr.keyThatStays (.agg (fv k).toArray) (.agg (fv k).toArray)).run P w = .ok (.agg (fv k).toArray) w := by
      simp [Instr.keyThatStays, sameBits_flat]
    simp only [hj, Option.map_some, Option.getD_some, h4, Sem.run_bind, hst, Result.andThen_ok]
    refine ⟨_, _, putMap _ hb, ?_, stm_mod hst0 _ _ _⟩
    have he : (es.modify j fun e => { e with key := .agg (fv k).toArray, val := v }).toList = es.toList.set j { e' with val := v } := by
      rw [Array.toList_modify]
      refine List.ext_getElem? fun i => ?_
      rw [List.getElem?_modify, List.getElem?_set]
      by_cases e : j = i
      · subst e
        have : es.toList[j]? = some e' := h3
        rw [this]
        simp [hjl, ← h4]
      · simp [e]
    rw [MapIs, he]
    exact h5 v
theorem mupS {m x y : Operand} {t kt e : TypeId} {ks : List Bool} (hT : MapTy P t kt e := by infer_instance) (hK : FlatTy P kt ks := by infer_instance) {b : Nat} {es : Array MapEntry} {c : Nat} {kv : List (List Fl × Value)} {cs : List Value} {k : List Fl} {v : Value}
    (hm : MapIs es kv) (hs : ∀ p ∈ kv, shapeOf p.1 = ks) (hst0 : Stm es c) (hx : ev l m = some (.map (some b)) := by exact rfl) (hy : ev l x = some (.agg cs.toArray) := by exact rfl) (hv : ev l y = some v := by exact rfl) (hl : FlL cs k := by repeat (first | exact FlL.nil | apply FlL.int | apply FlL.bool)) (hk : shapeOf k = ks := by rfl)
    (ha : At L (.obj b (.map es c)) M := by repeat (first | exact At.here | apply At.there)) (h : ∀ es' c', MapIs es' (updM kv k v) → Stm es' c' → WL F P ops Q rest n D l w0 (.obj b (.map es' c') :: M)) : WL F P ops Q (⟨none, .mapUpdate t m x y, ty, pos, aft, none⟩ :: rest) n D l w0 L := by
  intro hF a w hfr hst
  have hst1 := hst.pull ha
  obtain ⟨es', c', hr, hm', hs'⟩ := run_updateS (P := P) hT hK hst1.objAt hm hs hk v hst0
  rw [← hl.out] at hr
  have he : (execOp a.eval ⟨none, .mapUpdate t m x y, ty, pos, aft, none⟩).run P w = .ok .skip (w.putObj b (.map es' c')) := by
    simp [execOp, hfr.eval hx, hfr.eval hy, hfr.eval hv, hr]
  show (if _ then _ else _)
  rw [if_pos (by simp [Region.wanted])]
  refine ⟨fun f _ => hF.fn f, ?_⟩
  rw [semAt_plain (by simp), he]
  exact h es' c' hm' hs' hF _ _ (hfr.put_none (.bool true)) (hst1.putObj _)

abbrev KV := Value × Value
def kvOf (e : MapEntry) : KV := (e.key, e.val)
def LastIs (es : Array MapEntry) (seen : Array Nat) (last : Option KV) : Prop := ∀ kv, last = some kv → ∃ (seen' : Array Nat) (e : MapEntry), seen = seen'.push e.born ∧ e ∈ es.toList ∧ kvOf e = kv
def itE (r b : Nat) (es : Array MapEntry) (c : Nat) (todo : List KV) (last : Option KV) : Ent := .gen true true (fun k => k = r) (fun w => ∃ seen, w.heap[r]? = some (.mapIter (some b) c seen c) ∧ todo.Perm ((leftOf es seen).toList.map kvOf) ∧ LastIs es seen last)
  (fun w w' hb ⟨seen, h1, h2⟩ => ⟨seen, (hb r rfl).trans h1, h2⟩) (fun w k ⟨seen, h1, _⟩ hk => by subst hk; exact heap_lt h1)
theorem left_none (es : Array MapEntry) : leftOf es #[] = es := by
  unfold leftOf
  exact Array.filter_eq_self.2 fun a _ => by simp
def nxV : Option KV → Value
  | none => .tuple #[.bool false]
  | some kv => .tuple #[.bool true, kv.1, kv.2]
def NxO (todo : List KV) (o : Option KV) (todo' : List KV) : Prop := match o with
  | none => todo = [] ∧ todo' = []
  | some kv => todo.Perm (kv :: todo')
theorem born_apart {es : List MapEntry} (h : (es.map (·.born)).Nodup) {a b : MapEntry} (ha : a ∈ es) (hb : b ∈ es) (e : a.born = b.born) : a = b := by
  induction es with
  | nil => cases ha
  | cons x es ih =>
    rw [List.map_cons, List.nodup_cons] at h
    rcases List.mem_cons.1 ha with h1 | h1
    · rcases List.mem_cons.1 hb with h2 | h2
      · rw [h1, h2]
      · exact absurd (List.mem_map.2 ⟨b, h2, by rw [← e, h1]⟩) h.1
    · rcases List.mem_cons.1 hb with h2 | h2
      · exact absurd (List.mem_map.2 ⟨a, h1, by rw [e, h2]⟩) h.1
      · exact ih h.2 h1 h2
theorem nodup_of_born {es : List MapEntry} (h : (es.map (·.born)).Nodup) : es.Nodup := by
  induction es with
  | nil => exact List.nodup_nil
  | cons x es ih =>
    rw [List.map_cons, List.nodup_cons] at h
    exact List.nodup_cons.2 ⟨fun hm => h.1 (List.mem_map.2 ⟨x, hm, rfl⟩), ih h.2⟩
theorem left_perm {es : Array MapEntry} (h : (es.toList.map (·.born)).Nodup) {seen : Array Nat} {e : MapEntry} (he : e ∈ (leftOf es seen).toList) : (leftOf es seen).toList.Perm (e :: (leftOf es (seen.push e.born)).toList) := by
  have hnd : (leftOf es seen).toList.Nodup := by
    have : es.toList.Nodup := nodup_of_born h
    unfold leftOf
    rw [Array.toList_filter]
    exact this.filter _
  obtain ⟨hem, hes⟩ := mem_left he
  have hnd2 : (leftOf es (seen.push e.born)).toList.Nodup := by
    have : es.toList.Nodup := nodup_of_born h
    unfold leftOf
    rw [Array.toList_filter]
    exact this.filter _
  have hm : ∀ x : MapEntry, x ∈ (leftOf es (seen.push e.born)).toList ↔ x ∈ es.toList ∧ seen.contains x.born = false ∧ x.born ≠ e.born := fun x => by
    unfold leftOf
    rw [Array.toList_filter, List.mem_filter, contains_push]
    simp
  have hm0 : ∀ x : MapEntry, x ∈ (leftOf es seen).toList ↔ x ∈ es.toList ∧ seen.contains x.born = false := fun x => by
    unfold leftOf
    rw [Array.toList_filter, List.mem_filter]
    simp
  refine (List.perm_ext_iff_of_nodup hnd (List.nodup_cons.2 ⟨fun h2 => ((hm e).1 h2).2.2 rfl, hnd2⟩)).2 fun x => ?_
  rw [hm0, List.mem_cons, hm]
  constructor
  · rintro ⟨h1, h2⟩
    by_cases e2 : x.born = e.born
    · exact .inl (born_apart h h1 hem e2)
    · exact .inr ⟨h1, h2, e2⟩
  · rintro (rfl | ⟨h1, h2, _⟩)
    · exact ⟨hem, hes⟩
    · exact ⟨h1, h2⟩
theorem exN {x : Operand} {o : Option KV} (hx : ev l x = some (nxV o) := by exact rfl) : Yd P n D l w0 L (.extract x 0) (.bool o.isSome) :=
  ⟨by simp, by simp, fun oo ho ac w hfr _ => by
    cases o <;> simp [execOp, ho, hfr.eval hx, nxV] <;> rfl⟩
end rules

section
variable {w0 w : World} {M : List Ent} {e e1 e2 : Ent}
theorem St.split (h : St w0 w (e :: M)) (hx : e.excl = true) (h1 : e1.ok w) (h2 : e2.ok w) (f1 : ∀ k, e1.fp k → e.fp k) (f2 : ∀ k, e2.fp k → e.fp k) (hd : ∀ k, e1.fp k → e2.fp k → False) : St w0 w (e1 :: e2 :: M) := by
  have hp := List.pairwise_cons.1 h.sep
  refine ⟨h.below, fun x hxm => ?_, fun x hxm hf b hb => ?_, List.pairwise_cons.2 ⟨fun x hxm _ b hb hb' => ?_, List.pairwise_cons.2 ⟨fun x hxm _ b hb hb' => ?_, hp.2⟩⟩⟩
  · rcases List.mem_cons.1 hxm with rfl | hxm
    · exact h1
    rcases List.mem_cons.1 hxm with rfl | hxm
    · exact h2
    · exact h.ok x (by simp [hxm])
  · rcases List.mem_cons.1 hxm with rfl | hxm
    · exact h.new e (by simp) (Ent.fresh_of_excl hx) b (f1 b hb)
    rcases List.mem_cons.1 hxm with rfl | hxm
    · exact h.new e (by simp) (Ent.fresh_of_excl hx) b (f2 b hb)
    · exact h.new x (by simp [hxm]) hf b hb
  · rcases List.mem_cons.1 hxm with rfl | hxm
    · exact hd b hb hb'
    · exact hp.1 x hxm (.inl hx) b (f1 b hb) hb'
  · exact hp.1 x hxm (.inl hx) b (f2 b hb) hb'
end
end Go.Proofs.YtmlhnajgiopfgaaGreat

namespace Go.Proofs.YtmlhnajgiopfgaaGreat
open Go Go.RowKit

section
variable {P : Program}
def MapV (es : Array MapEntry) (ks : List Bool) (Pv : Value → Prop) (N : Nat) : Prop := ∃ kv, MapIs es kv ∧ (∀ p ∈ kv, shapeOf p.1 = ks ∧ Pv p.2) ∧ kv.length ≤ N
theorem MapV.size {es : Array MapEntry} {ks : List Bool} {Pv : Value → Prop} {N : Nat} (h : MapV es ks Pv N) : es.size ≤ N := by
  obtain ⟨kv, h1, _, h3⟩ := h
  have := congrArg List.length h1
  simp at this
  omega
theorem lkp_in {kv : List (List Fl × Value)} {k : List Fl} {v : Value} (h : lkp kv k = some v) : ∃ p ∈ kv, p.2 = v := by
  unfold lkp at h
  cases e : kv.find? fun p => decide (k = p.1) with
  | none => rw [e] at h; cases h
  | some p =>
    rw [e] at h
    exact ⟨p, List.mem_of_find?_eq_some e, Option.some.inj h⟩
end

section rules
variable {F : Fence} {P : Program} {ops : Array Oper} {Q : Exit → Act → World → Prop} {rest : List Oper} {n : Nat} {D : List Deferred} {l : Env} {w0 : World} {L M : List Ent}
variable {d : Nat} {ty : TypeId} {pos : String} {aft : Array Edge}
theorem MapV.mono {es : Array MapEntry} {ks : List Bool} {Pv Qv : Value → Prop} {N : Nat} (h : MapV es ks Pv N) (hq : ∀ v, Pv v → Qv v) : MapV es ks Qv N := by
  obtain ⟨kv, h1, h2, h3⟩ := h
  exact ⟨kv, h1, fun p hp => ⟨(h2 p hp).1, hq _ (h2 p hp).2⟩, h3⟩
theorem lkV {m x : Operand} {t kt e : TypeId} {ks : List Bool} {agg : Bool} {size bytes : Nat} {z : Value} {zl : List Value} (hT : MapTy P t kt e := by infer_instance) (hK : FlatTy P kt ks := by infer_instance) (hE : Ty P e agg size bytes z zl := by infer_instance) {b : Nat} {es : Array MapEntry} {c N : Nat} {Pv : Value → Prop} {cs : List Value} {k : List Fl}
    (hm : MapV es ks Pv N) (hz : Pv z) (hx : ev l m = some (.map (some b)) := by exact rfl) (hy : ev l x = some (.agg cs.toArray) := by exact rfl) (hl : FlL cs k := by repeat (first | exact FlL.nil | apply FlL.int | apply FlL.bool)) (hk : shapeOf k = ks := by rfl) (hd : Nat.blt d n = true := by rfl)
    (ha : At L (.obj b (.map es c)) M := by repeat (first | exact At.here | apply At.there)) (h : ∀ v, Pv v → WL F P ops Q rest n D ((d, v) :: l) w0 L) : WL F P ops Q (⟨some d, .lookup t m x false, ty, pos, aft, none⟩ :: rest) n D l w0 L := by
  obtain ⟨kv, hm1, hm2, hm3⟩ := hm
  refine WL.y (hy := lkN (hT := hT) (hK := hK) (hE := hE) (hm := hm1) (hs := fun p hp => (hm2 p hp).1) (hx := hx) (hy := hy) (hl := hl) (hk := hk) (ha := ha)) (hd := hd) (h := h _ ?_)
  cases e : lkp kv k with
  | none => exact hz
  | some v =>
    obtain ⟨p, hp, hv⟩ := lkp_in e
    show Pv v
    rw [← hv]; exact (hm2 p hp).2
theorem lenMp {x : Operand} {t kt e : TypeId} (hT : MapTy P t kt e := by infer_instance) {b : Nat} {es : Array MapEntry} {c : Nat} (hx : ev l x = some (.map (some b)) := by exact rfl) (ha : At L (.obj b (.map es c)) M := by repeat (first | exact At.here | apply At.there)) : Yd P n D l w0 L (.call { callee := .builtin .len, args := #[x], argTypes := #[t] }) (.int .i64 es.size) :=
  ⟨by simp, by simp, fun oo ho ac w hfr hst => by
    have hg := getMap (P := P) (hst _ ha.mem)
    simp [execOp, ho, resolve, invoke, builtin, hfr.eval hx, Builtin.len_, run_underlying hT.und, goInt, hg]⟩
end rules
end Go.Proofs.YtmlhnajgiopfgaaGreat

namespace Go.Proofs.YtmlhnajgiopfgaaGreat
open Go Go.RowKit

theorem map_erase {α β : Type} (f : α → β) : ∀ (l : List α) (j : Nat), (l.eraseIdx j).map f = (l.map f).eraseIdx j
  | [], _ => rfl
  | _ :: _, 0 => rfl
  | x :: l, j + 1 => by rw [List.eraseIdx_cons_succ, List.map_cons, List.map_cons, List.eraseIdx_cons_succ, map_erase f l j]
theorem fl_inj {x y : Fl} (h : x.v = y.v) : x = y := by
  cases x <;> cases y <;> simp [Fl.v] at h
  · rw [h]
  · rw [h]
theorem fv_inj : ∀ {xs ys : List Fl}, fv xs = fv ys → xs = ys
  | [], [], _ => rfl
  | [], _ :: _, h => by cases h
  | _ :: _, [], h => by cases h
  | x :: xs, y :: ys, h => by
    have h1 : x.v :: fv xs = y.v :: fv ys := h
    injection h1 with h2 h3
    rw [fl_inj h2, fv_inj h3]
theorem agg_inj {xs ys : List Fl} (h : Value.agg (fv xs).toArray = Value.agg (fv ys).toArray) : xs = ys := by
  injection h with h
  exact fv_inj (by simpa using congrArg Array.toList h)
structure KAt (kv : List (List Fl × Value)) (k : List Fl) (j : Nat) : Prop where
  key : ∃ v, kv[j]? = some (k, v)
  up : ∀ u, kv.modify j (fun p => (p.1, u)) = updM kv k u
theorem mapIs_at {es : Array MapEntry} {kv : List (List Fl × Value)} (hm : MapIs es kv) {j : Nat} {e : MapEntry} (h : es.toList[j]? = some e) : ∃ p, kv[j]? = some p ∧ e.key = .agg (fv p.1).toArray ∧ e.val = p.2 := by
  have := congrArg (·[j]?) hm
  simp only [List.getElem?_map, h, Option.map_some] at this
  cases e2 : kv[j]? with
  | none => rw [e2] at this; cases this
  | some p =>
    rw [e2] at this
    injection this with this
    injection this with h1 h2
    exact ⟨p, rfl, h1, h2⟩
theorem kv_eq {a b : List (List Fl × Value)} (h : a.map (fun p => (Value.agg (fv p.1).toArray, p.2)) = b.map fun p => (Value.agg (fv p.1).toArray, p.2)) : a = b := by
  refine List.ext_getElem? fun i => ?_
  have := congrArg (·[i]?) h
  simp only [List.getElem?_map] at this
  cases e1 : a[i]? <;> cases e2 : b[i]? <;> rw [e1, e2] at this <;> simp at this ⊢
  exact Prod.ext (fv_inj (by simpa using this.1)) this.2
theorem updM_self : ∀ {kv : List (List Fl × Value)} {k : List Fl} {z : Value}, lkp kv k = none → updM kv k z = kv ++ [(k, z)]
  | [], _, _, _ => rfl
  | p :: kv, k, z, h => by
    unfold lkp at h
    rw [List.find?_cons] at h
    by_cases e : k = p.1
    · rw [decide_eq_true e] at h; cases h
    · rw [decide_eq_false e] at h
      rw [updM, if_neg e, updM_self h]; rfl
theorem kat_new {kv : List (List Fl × Value)} {k : List Fl} {z : Value} (h : lkp kv k = none) (hu : (updM kv k) = fun v => kv ++ [(k, v)]) : KAt (kv ++ [(k, z)]) k kv.length := by
  refine ⟨⟨z, by rw [List.getElem?_append_right (Nat.le_refl _), Nat.sub_self]; rfl⟩, fun u => ?_⟩
  have h1 : ∀ kv : List (List Fl × Value), (kv ++ [(k, z)]).modify kv.length (fun p => (p.1, u)) = kv ++ [(k, u)] := fun kv => by
    refine List.ext_getElem? fun i => ?_
    rw [List.getElem?_modify]
    rcases Nat.lt_trichotomy i kv.length with e | e | e
    · rw [List.getElem?_append_left e, List.getElem?_append_left e]; simp [show ¬ kv.length = i by omega]
    · subst e; rw [List.getElem?_append_right (Nat.le_refl _), List.getElem?_append_right (Nat.le_refl _), Nat.sub_self]; simp
    · rw [List.getElem?_eq_none (by rw [List.length_append]; exact e), List.getElem?_eq_none (by rw [List.length_append]; exact e)]; rfl
  have h2 : ∀ (kv : List (List Fl × Value)), lkp kv k = none → updM (kv ++ [(k, z)]) k u = kv ++ [(k, u)] := fun kv => by
    induction kv with
    | nil => intro _; show (if k = k then _ else _) = _; rw [if_pos rfl]; rfl
    | cons p kv ih =>
      intro h
      unfold lkp at h
      rw [List.find?_cons] at h
      by_cases e : k = p.1
      · rw [decide_eq_true e] at h; cases h
      · rw [decide_eq_false e] at h
        show updM (p :: (kv ++ [(k, z)])) k u = _
        rw [updM, if_neg e, ih h]; rfl
  rw [h1, h2 kv h]
section
variable {P : Program}
theorem run_mapEntryX {t kt e : TypeId} {ks : List Bool} {agg : Bool} {size bytes : Nat} {z : Value} {zl : List Value} (hT : MapTy P t kt e) (hK : FlatTy P kt ks) (hE : Ty P e agg size bytes z zl) {w : World} {b : Nat} {es : Array MapEntry} {c : Nat} (hb : w.heap[b]? = some (.map es c)) {kv : List (List Fl × Value)} (hm : MapIs es kv) (hs : ∀ p ∈ kv, shapeOf p.1 = ks) (hst : Stm es c) {k : List Fl} (hk : shapeOf k = ks) :
    ∃ es' c' v s kv' j, (Instr.mapEntry t (.map (some b)) (.agg (fv k).toArray)).run P w = .ok (.tuple #[v, .int .i64 s]) (w.putObj b (.map es' c')) ∧ MapIs es' kv' ∧ Stm es' c' ∧ es'.findIdx? (fun e => (e.born : Int) == s) = some j ∧ (∀ u, kv'.modify j (fun p => (p.1, u)) = updM kv k u) ∧ ∀ p ∈ kv', p ∈ kv ∨ p = (k, z) := by
  obtain ⟨r, hr, hc⟩ := run_findKey hK hk es.toList kv w hm hs
  have hck := fun em => checkKeyF em 8 kt ks hK.flt 9992 k w hk
  simp only [fval, hK.agg, cond_true] at hck
  have hck' : ∀ em, (Instr.checkKey em 10000 kt (.agg (fv k).toArray)).run P w = .ok () w := hck
  unfold Instr.mapEntry
  simp only [Sem.run_bind, run_underlying hT.und, Result.andThen_ok, getMap hb, Sem.run_pure, hck', hr]
  have hm' : es.toList.map (fun e => (e.key, e.val)) = kv.map fun p => (Value.agg (fv p.1).toArray, p.2) := hm
  have hlen : es.size = kv.length := by have := congrArg List.length hm'; simpa using this
  have find_own : ∀ (es : Array MapEntry) (c : Nat) (j : Nat) (e' : MapEntry), Stm es c → es[j]? = some e' → es.findIdx? (fun e => (e.born : Int) == (e'.born : Int)) = some j := fun es c j e' hst hj => by
    obtain ⟨hjl, hje⟩ := Array.getElem?_eq_some_iff.1 hj
    rw [Array.findIdx?_eq_some_iff_getElem]
    refine ⟨hjl, by rw [hje]; simp, fun i hi => ?_⟩
    have hil : i < es.size := by omega
    have hne : es[i].born ≠ es[j].born := fun e2 => by
      have hp := List.pairwise_iff_getElem.1 hst.1 i j (by simpa using hil) (by simpa using hjl) hi
      simp only [List.getElem_map, Array.getElem_toList] at hp
      exact hp e2
    rw [hje] at hne
    simp only [beq_iff_eq]
    exact fun h9 => hne (by exact_mod_cast h9)
  rcases hc with ⟨rfl, h1, h2⟩ | ⟨j, u, e', rfl, h1, h3, h4, h5⟩
  · simp only [Sem.run_bind, run_zeroValue hE, Result.andThen_ok, putMap _ hb, Sem.run_pure]
    have hst2 := stm_push hst (.agg (fv k).toArray) z
    refine ⟨_, _, _, _, kv ++ [(k, z)], es.size, rfl, ?_, hst2, find_own _ _ es.size { key := .agg (fv k).toArray, val := z, born := c } hst2 (by simp), ?_, fun p hp => by rwa [List.mem_append, List.mem_singleton] at hp⟩
    · simp only [MapIs, Array.toList_push, List.map_append, hm', List.map_cons, List.map_nil]
    · rw [hlen]
      have := (kat_new (z := z) h1 h2).up
      intro u
      rw [this u, updM_self h1]
      have h6 : ∀ (kv : List (List Fl × Value)), lkp kv k = none → updM (kv ++ [(k, z)]) k u = kv ++ [(k, u)] := fun kv => by
        induction kv with
        | nil => intro _; show (if k = k then _ else _) = _; rw [if_pos rfl]; rfl
        | cons p kv ih =>
          intro h
          unfold lkp at h
          rw [List.find?_cons] at h
          by_cases e : k = p.1
          · rw [decide_eq_true e] at h; cases h
          · rw [decide_eq_false e] at h
            show updM (p :: (kv ++ [(k, z)])) k u = _
            rw [updM, if_neg e, ih h]; rfl
      exact h6 kv h1
  · have hj : es[j]? = some e' := by simpa using h3
    have hjl : j < es.size := (Array.getElem?_eq_some_iff.1 hj).1
    have hstay : (Instr.keyThatStays (.agg (fv k).toArray) (.agg (fv k).toArray)).run P w = .ok (.agg (fv k).toArray) w := by
      simp [Instr.keyThatStays, sameBits_flat]
    simp only [hj, Option.map_some, Option.getD_some, h4, Sem.run_bind, hstay, Result.andThen_ok, putMap _ hb, Sem.run_pure]
    have he : (es.modify j fun e => { e with key := .agg (fv k).toArray }).toList = es.toList := by
      rw [Array.toList_modify]
      refine List.ext_getElem? fun i => ?_
      rw [List.getElem?_modify]
      by_cases e : j = i
      · subst e
        rw [show es.toList[j]? = some e' from h3]
        simp [← h4]
      · simp [e]
    have he2 : es.modify j (fun e => { e with key := .agg (fv k).toArray }) = es := Array.toList_inj.1 he
    rw [he2]
    refine ⟨_, _, _, _, kv, j, rfl, hm, hst, find_own es c j e' hst hj, fun u2 => kv_eq ?_, fun p hp => .inl hp⟩
    rw [← h5 u2]
    refine List.ext_getElem? fun i => ?_
    have hi := congrArg (·[i]?) hm'
    simp only [List.getElem?_map] at hi
    rw [List.getElem?_map, List.getElem?_map, List.getElem?_modify, List.getElem?_set]
    by_cases e : j = i
    · subst e
      rw [h3] at hi
      have hjl2 : j < es.toList.length := by simpa using hjl
      cases h2 : kv[j]? with
      | none => rw [h2] at hi; cases hi
      | some p => rw [h2] at hi; simp [hjl] at hi ⊢; exact hi.1.symm
    · simp only [if_neg e]
      simpa using hi.symm
theorem run_entryStoreX {t : TypeId} {w : World} {b : Nat} {es : Array MapEntry} {c : Nat} (hb : w.heap[b]? = some (.map es c)) {kv : List (List Fl × Value)} (hm : MapIs es kv) (hst : Stm es c) {s : Int} {j : Nat} (hj : es.findIdx? (fun e => (e.born : Int) == s) = some j) (x : Value) :
    ∃ es', (Instr.entryStore t (.map (some b)) (.int .i64 s) x).run P w = .ok () (w.putObj b (.map es' c)) ∧ MapIs es' (kv.modify j fun p => (p.1, x)) ∧ Stm es' c := by
  unfold Instr.entryStore
  simp only [Sem.run_bind, Result.andThen_ok, getMap hb, Sem.run_pure, asInt, asIntOf, hj]
  refine ⟨_, putMap _ hb, ?_, ?_⟩
  · have hm' : es.toList.map (fun e => (e.key, e.val)) = kv.map fun p => (Value.agg (fv p.1).toArray, p.2) := hm
    show ((es.modify j fun e => { e with val := x }).toList.map fun e => (e.key, e.val)) = (kv.modify j fun p => (p.1, x)).map fun p => (Value.agg (fv p.1).toArray, p.2)
    rw [Array.toList_modify]
    refine List.ext_getElem? fun i => ?_
    have hi := congrArg (·[i]?) hm'
    simp only [List.getElem?_map] at hi
    rw [List.getElem?_map, List.getElem?_map, List.getElem?_modify, List.getElem?_modify]
    by_cases e : j = i
    · subst e
      simp only [if_true]
      cases h1 : es.toList[j]? <;> cases h2 : kv[j]? <;> rw [h1, h2] at hi <;> simp at hi ⊢
      exact hi.1
    · simp only [if_neg e]
      simpa using hi
  · have hb2 : (es.modify j fun e => { e with val := x }).toList.map (·.born) = es.toList.map (·.born) := by
      rw [Array.toList_modify]
      refine List.ext_getElem? fun i => ?_
      rw [List.getElem?_map, List.getElem?_map, List.getElem?_modify]
      by_cases e : j = i
      · subst e; simp only [if_pos]; cases es.toList[j]? <;> rfl
      · simp only [if_neg e]; cases es.toList[i]? <;> rfl
    refine ⟨by rw [hb2]; exact hst.1, fun e he => ?_⟩
    have : e.born ∈ es.toList.map (·.born) := hb2 ▸ List.mem_map.2 ⟨e, he, rfl⟩
    obtain ⟨e', he', e2⟩ := List.mem_map.1 this
    have := hst.2 e' he'
    omega
theorem run_deleteX {t kt e : TypeId} {ks : List Bool} (hT : MapTy P t kt e) (hK : FlatTy P kt ks) {w : World} {b : Nat} {es : Array MapEntry} {c : Nat} (hb : w.heap[b]? = some (.map es c)) {kv : List (List Fl × Value)} (hm : MapIs es kv) (hs : ∀ p ∈ kv, shapeOf p.1 = ks) (hst : Stm es c) {k : List Fl} (hk : shapeOf k = ks) (hin : (lkp kv k).isSome = true) (t2 ty : TypeId) :
    ∃ es' j v, (Builtin.delete_ #[t, t2] ty #[.map (some b), .agg (fv k).toArray]).run P w = .ok (.tuple #[]) (w.putObj b (.map es' c)) ∧ kv[j]? = some (k, v) ∧ MapIs es' (kv.eraseIdx j) ∧ Stm es' c := by
  obtain ⟨r, hr, hc⟩ := run_findKey hK hk es.toList kv w hm hs
  have hck := fun em => checkKeyF em 8 kt ks hK.flt 9992 k w hk
  simp only [fval, hK.agg, cond_true] at hck
  have hck' : ∀ em, (Instr.checkKey em 10000 kt (.agg (fv k).toArray)).run P w = .ok () w := hck
  rcases hc with ⟨rfl, h1, h2⟩ | ⟨j, u, e', rfl, h1, h3, h4, h5⟩
  · rw [h1] at hin; cases hin
  have hj : es[j]? = some e' := by simpa using h3
  have hjl : j < es.size := (Array.getElem?_eq_some_iff.1 hj).1
  obtain ⟨p, hp, hpk, hpv⟩ := mapIs_at hm h3
  have hpk2 : p.1 = k := agg_inj (by rw [← hpk, h4])
  have htl : (es.eraseIdxIfInBounds j).toList = es.toList.eraseIdx j := by
    rw [Array.eraseIdxIfInBounds, dif_pos hjl, Array.toList_eraseIdx]
  refine ⟨es.eraseIdxIfInBounds j, j, p.2, ?_, by rw [hp, ← hpk2], ?_, ?_⟩
  · unfold Builtin.delete_
    simp [Sem.run_bind, run_underlying hT.und, Result.andThen_ok, getMap hb, Sem.run_pure, hck', hr, putMap _ hb]
  · have hm' : es.toList.map (fun e => (e.key, e.val)) = kv.map fun p => (Value.agg (fv p.1).toArray, p.2) := hm
    show ((es.eraseIdxIfInBounds j).toList.map fun e => (e.key, e.val)) = _
    rw [htl]
    rw [map_erase, hm', map_erase]
  · refine ⟨?_, fun e he => ?_⟩
    · rw [htl, map_erase]
      exact hst.1.sublist (List.eraseIdx_sublist ..)
    · rw [htl] at he
      exact hst.2 e (List.mem_of_mem_eraseIdx he)
end
section rules
variable {F : Fence} {P : Program} {ops : Array Oper} {Q : Exit → Act → World → Prop} {rest : List Oper} {n : Nat} {D : List Deferred} {l : Env} {w0 : World} {L M : List Ent}
variable {d : Nat} {ty : TypeId} {pos : String} {aft : Array Edge}
theorem mpX {m x : Operand} {t kt e : TypeId} {ks : List Bool} {agg : Bool} {size bytes : Nat} {z : Value} {zl : List Value} (hT : MapTy P t kt e := by infer_instance) (hK : FlatTy P kt ks := by infer_instance) (hE : Ty P e agg size bytes z zl := by infer_instance) {b : Nat} {es : Array MapEntry} {c : Nat} {kv : List (List Fl × Value)} {cs : List Value} {k : List Fl}
    (hm : MapIs es kv) (hs : ∀ p ∈ kv, shapeOf p.1 = ks) (hst0 : Stm es c) (hx : ev l m = some (.map (some b)) := by exact rfl) (hy : ev l x = some (.agg cs.toArray) := by exact rfl) (hl : FlL cs k := by repeat (first | exact FlL.nil | apply FlL.int | apply FlL.bool)) (hk : shapeOf k = ks := by rfl) (hd : Nat.blt d n = true := by rfl)
    (ha : At L (.obj b (.map es c)) M := by repeat (first | exact At.here | apply At.there)) (h : ∀ es' c' v s kv' j, MapIs es' kv' → Stm es' c' → es'.findIdx? (fun e => (e.born : Int) == s) = some j → (∀ u, kv'.modify j (fun p => (p.1, u)) = updM kv k u) → (∀ p ∈ kv', p ∈ kv ∨ p = (k, z)) → WL F P ops Q rest n D ((d, .tuple #[v, .int .i64 s]) :: l) w0 (.obj b (.map es' c') :: M)) :
    WL F P ops Q (⟨some d, .mapEntry t m x, ty, pos, aft, none⟩ :: rest) n D l w0 L :=
  WL.value (X := (Array MapEntry × Nat) × Value × Int × List (List Fl × Value) × Nat) (φ := fun p => MapIs p.1.1 p.2.2.2.1 ∧ Stm p.1.1 p.1.2 ∧ p.1.1.findIdx? (fun e => (e.born : Int) == p.2.2.1) = some p.2.2.2.2 ∧ (∀ u, p.2.2.2.1.modify p.2.2.2.2 (fun q => (q.1, u)) = updM kv k u) ∧ ∀ q ∈ p.2.2.2.1, q ∈ kv ∨ q = (k, z)) (val := fun p => .tuple #[p.2.1, .int .i64 p.2.2.1]) (L' := fun p => .obj b (.map p.1.1 p.1.2) :: M) (by simp) hd (fun ac w hfr hst => by
    have hst1 := hst.pull ha
    obtain ⟨es', c', v, s, kv', j, hr, h1, h2, h3, h4, h5⟩ := run_mapEntryX (P := P) hT hK hE hst1.objAt hm hs hst0 hk
    rw [← hl.out] at hr
    exact ⟨((es', c'), v, s, kv', j), _, ⟨h1, h2, h3, h4, h5⟩, by simp [execOp, hfr.eval hx, hfr.eval hy, hr], hst1.putObj _⟩) (fun p hp => h _ _ _ _ _ _ hp.1 hp.2.1 hp.2.2.1 hp.2.2.2.1 hp.2.2.2.2)
theorem esX {m x y : Operand} {t : TypeId} {b : Nat} {es : Array MapEntry} {c : Nat} {kv : List (List Fl × Value)} {s : Int} {j : Nat} {v : Value}
    (hm : MapIs es kv) (hst0 : Stm es c) (hj : es.findIdx? (fun e => (e.born : Int) == s) = some j) (hx : ev l m = some (.map (some b)) := by exact rfl) (hs : ev l x = some (.int .i64 s) := by exact rfl) (hy : ev l y = some v := by exact rfl)
    (ha : At L (.obj b (.map es c)) M := by repeat (first | exact At.here | apply At.there)) (h : ∀ es', MapIs es' (kv.modify j fun p => (p.1, v)) → Stm es' c → WL F P ops Q rest n D l w0 (.obj b (.map es' c) :: M)) : WL F P ops Q (⟨none, .entryStore t m x y, ty, pos, aft, none⟩ :: rest) n D l w0 L := by
  intro hF a w hfr hst
  have hst1 := hst.pull ha
  obtain ⟨es', hr, hm', hs'⟩ := run_entryStoreX (P := P) (t := t) hst1.objAt hm hst0 hj v
  have he : (execOp a.eval ⟨none, .entryStore t m x y, ty, pos, aft, none⟩).run P w = .ok .skip (w.putObj b (.map es' c)) := by
    simp [execOp, hfr.eval hx, hfr.eval hs, hfr.eval hy, hr]
  show (if _ then _ else _)
  rw [if_pos (by simp [Region.wanted])]
  refine ⟨fun f _ => hF.fn f, ?_⟩
  rw [semAt_plain (by simp), he]
  exact h es' hm' hs' hF _ _ (hfr.put_none (.bool true)) (hst1.putObj _)
theorem dlX {m x : Operand} {t t2 kt e : TypeId} {ks : List Bool} (hT : MapTy P t kt e := by infer_instance) (hK : FlatTy P kt ks := by infer_instance) {b : Nat} {es : Array MapEntry} {c : Nat} {kv : List (List Fl × Value)} {cs : List Value} {k : List Fl}
    (hm : MapIs es kv) (hs : ∀ p ∈ kv, shapeOf p.1 = ks) (hst0 : Stm es c) (hin : (lkp kv k).isSome = true) (hx : ev l m = some (.map (some b)) := by exact rfl) (hy : ev l x = some (.agg cs.toArray) := by exact rfl) (hl : FlL cs k := by repeat (first | exact FlL.nil | apply FlL.int | apply FlL.bool)) (hk : shapeOf k = ks := by rfl)
    (ha : At L (.obj b (.map es c)) M := by repeat (first | exact At.here | apply At.there)) (h : ∀ es' j v, kv[j]? = some (k, v) → MapIs es' (kv.eraseIdx j) → Stm es' c → WL F P ops Q rest n D l w0 (.obj b (.map es' c) :: M)) : WL F P ops Q (⟨none, .call { callee := .builtin .delete, args := #[m, x], argTypes := #[t, t2] }, ty, pos, aft, none⟩ :: rest) n D l w0 L := by
  intro hF a w hfr hst
  have hst1 := hst.pull ha
  obtain ⟨es', j, v, hr, h1, h2, h3⟩ := run_deleteX (P := P) hT hK hst1.objAt hm hs hst0 hk hin t2 ty
  rw [← hl.out] at hr
  show (if _ then _ else _)
  rw [if_pos (by simp [Region.wanted])]
  refine ⟨fun f _ => hF.fn f, ?_⟩
  have he : (execOp a.eval ⟨none, .call { callee := .builtin .delete, args := #[m, x], argTypes := #[t, t2] }, ty, pos, aft, none⟩).run P w = .ok (.value (.tuple #[])) (w.putObj b (.map es' c)) := by
    simp [execOp, resolve, invoke, builtin, hfr.eval hx, hfr.eval hy, hr]
  rw [semAt_plain (by simp), he]
  exact h es' j v h1 h2 h3 hF _ _ (hfr.put_none _) (hst1.putObj _)

theorem rngO {x : Operand} {t kt e : TypeId} (hT : MapTy P t kt e := by infer_instance) {b : Nat} {es : Array MapEntry} {c : Nat} (hx : ev l x = some (.map (some b)) := by exact rfl) (ha : At L (.obj b (.map es c)) M := by repeat (first | exact At.here | apply At.there)) (hd : Nat.blt d n = true := by rfl)
    (h : ∀ r, WL F P ops Q rest n D ((d, .pointer (some ⟨r, 0, none⟩)) :: l) w0 (itE r b es c (es.toList.map kvOf) none :: L)) : WL F P ops Q (⟨some d, .range t x, ty, pos, aft, none⟩ :: rest) n D l w0 L :=
  WL.value (X := Nat) (φ := fun _ => True) (val := fun r => .pointer (some ⟨r, 0, none⟩)) (L' := fun r => itE r b es c (es.toList.map kvOf) none :: L) (by simp) hd (fun a w hfr hst => by
    have hb : w.heap[b]? = some (.map es c) := hst.ok (.obj b (.map es c)) ha.mem
    have hr := run_range_map (P := P) w t kt e b es c hT.und hb
    have hs := hst.allocObj (.mapIter (some b) c #[] c)
    refine ⟨w.heap.size, _, trivial, by simp [execOp, hfr.eval hx, hr]; rfl, ?_⟩
    refine hs.turn (e' := itE _ b es c _ none) rfl (fun _ _ _ => rfl) rfl rfl rfl (Nat.le_refl _) ⟨#[], ?_, ?_, fun kv h => (by cases h)⟩ (fun k hk => .inl hk)
    · exact heap_alloc_new w _
    · rw [left_none]) (fun r _ => h r)
theorem nxtO {x : Operand} {r b : Nat} {es : Array MapEntry} {c : Nat} {todo : List KV} {last : Option KV} {M' : List Ent} (hs : Stm es c) (hx : ev l x = some (.pointer (some ⟨r, 0, none⟩)) := by exact rfl) (ha : At L (itE r b es c todo last) M := by repeat (first | exact At.here | apply At.there)) (hb : At M (.obj b (.map es c)) M' := by repeat (first | exact At.here | apply At.there)) (hd : Nat.blt d n = true := by rfl)
    (h : ∀ o todo', NxO todo o todo' → WL F P ops Q rest n D ((d, nxV o) :: l) w0 (itE r b es c todo' o :: M)) : WL F P ops Q (⟨some d, .next x false, ty, pos, aft, none⟩ :: rest) n D l w0 L :=
  WL.value (X := Option KV × List KV) (φ := fun p => NxO todo p.1 p.2) (val := fun p => nxV p.1) (L' := fun p => itE r b es c p.2 p.1 :: M) (by simp) hd (fun a w hfr hst => by
    have hst1 := hst.pull ha
    obtain ⟨seen, h1, h2, h2'⟩ := hst1.ok (itE r b es c todo last) (by simp)
    have h3 : w.heap[b]? = some (.map es c) := hst1.ok (.obj b (.map es c)) (by simp [hb.mem])
    rcases run_next_at (P := P) w ty r b c c seen es c h1 h3 hs.2 (Nat.le_refl _) with ⟨h0, hrun⟩ | ⟨e, he, w1, hal, hrun⟩
    · have hnil : todo = [] := by
        have : (leftOf es seen).toList = [] := by
          rw [← Array.length_toList] at h0
          exact List.eq_nil_of_length_eq_zero h0
        rw [this, List.map_nil] at h2
        exact h2.eq_nil
      subst hnil
      refine ⟨(none, []), w, ⟨rfl, rfl⟩, ?_, hst1.turn (e' := itE r b es c [] none) rfl (fun _ _ _ => rfl) rfl rfl rfl (Nat.le_refl _) ⟨seen, h1, h2, fun kv h => (by cases h)⟩ (fun k hk => .inl hk)⟩
      simp [execOp, hfr.eval hx, hrun, nxV]
    · have hp := left_perm hs.1 he
      have hem := (mem_left he).1
      have hr1 : w1.heap[r]? = some (.mapIter (some b) c seen c) := by rcases hal with rfl | rfl <;> exact h1
      refine ⟨(some (kvOf e), (leftOf es (seen.push e.born)).toList.map kvOf), _, h2.trans (hp.map kvOf), by simp [execOp, hfr.eval hx, hrun, nxV, kvOf]; rfl, ?_⟩
      have hset := MapKept.heap_set (o' := .mapIter (some b) c (seen.push e.born) c) hr1
      have hw : w1.heap = w.heap ∧ w1.os = w.os ∧ w1.tape = w.tape ∧ w1.output = w.output ∧ w.drawn ≤ w1.drawn := by
        rcases hal with rfl | rfl
        · exact ⟨rfl, rfl, rfl, rfl, Nat.le_refl _⟩
        · exact ⟨rfl, rfl, rfl, rfl, Nat.le_succ _⟩
      refine hst1.turn (w' := ChangeMaps.setBlock w1 r _) (e' := itE r b es c _ (some (kvOf e))) rfl (fun k _ hk => ?_) hw.2.1 hw.2.2.1 hw.2.2.2.1 (by show w.heap.size ≤ (w1.heap.setIfInBounds r _).size; rw [Array.size_setIfInBounds, hw.1]; exact Nat.le_refl _) ⟨seen.push e.born, hset.1, .refl _, fun kv hkv => ⟨seen, e, rfl, hem, Option.some.inj hkv⟩⟩ (fun k hk => .inl hk) hw.2.2.2.2
      rw [← hw.1]; exact hset.2 k (fun e => hk e)) (fun p hp => h p.1 p.2 hp)
theorem entO {x : Operand} {r b : Nat} {es : Array MapEntry} {c : Nat} {todo : List KV} {kv : KV} {M' : List Ent} (hs : Stm es c) (hx : ev l x = some (.pointer (some ⟨r, 0, none⟩)) := by exact rfl) (ha : At L (itE r b es c todo (some kv)) M := by repeat (first | exact At.here | apply At.there)) (hb : At L (.obj b (.map es c)) M' := by repeat (first | exact At.here | apply At.there)) : Yd P n D l w0 L (.entry x) (.tuple #[kv.1, kv.2]) :=
  ⟨by simp, by simp, fun oo ho ac w hfr hst => by
    obtain ⟨seen, h1, _, h3⟩ := hst _ ha.mem
    have h4 : w.heap[b]? = some (.map es c) := hst _ hb.mem
    obtain ⟨seen', e, rfl, he, rfl⟩ := h3 kv rfl
    have hr := run_entry_at (P := P) w r b c seen' es c e h1 h4 he hs.1
    simp [execOp, ho, hfr.eval hx, hr, kvOf]⟩
end rules
end Go.Proofs.YtmlhnajgiopfgaaGreat

namespace Go.Proofs.YtmlhnajgiopfgaaGreat
open Go Go.RowKit

theorem Fst.uniq {p : Nat → Bool} {n : Nat} {j j' : Int} (h : Fst p n j) (h' : Fst p n j') : j = j' := by
  rcases h with ⟨k, hk, rfl, hp, hb⟩ | ⟨rfl, hb⟩
  · rcases h' with ⟨k', hk', rfl, hp', hb'⟩ | ⟨rfl, hb'⟩
    · rcases Nat.lt_trichotomy k k' with h | h | h
      · rw [hb' k h] at hp; cases hp
      · rw [h]
      · rw [hb k' h] at hp'; cases hp'
    · rw [hb' k hk] at hp; cases hp
  · rcases h' with ⟨k', hk', rfl, hp', hb'⟩ | ⟨rfl, hb'⟩
    · rw [hb k' hk'] at hp'; cases hp'
    · rfl

theorem C_CloneInts (A : Option Addr) (n c : Nat) (es : List (List Value)) (w : World) (h : Rd w A 1 n es) (hn : n ≤ 100000000) :
    CR Tryz.prog 80 [.slice A n c] w (fun _ : Option Addr × Nat => True) (fun p => .slice p.1 n p.2) (fun p => [.own p.1 p.2 3 1 n es]) := by
  refine ⟨en Tryz.func80 Tryz.ntmps80 ((St.init w).share (e := .ro A 1 n es) h rfl rfl rfl) (h := fun F => ?_)⟩
  refine sq (h := ?_)
  refine rg (h := ?_)
  refine wy asg ?_
  refine WL.nilOwn 3 1 (h := ?_)
  refine nl (h := ?_)
  refine q_seq (h := ?_)
  refine sq (h := ?_)
  refine sq (h := ?_)
  refine rg (h := ?_)
  refine wy mv ?_
  refine wy eqlN ?_
  refine nl (h := ?_)
  refine q_seq (h := ?_)
  refine cd (by exact rfl) (fun h0 => ?_) (fun h0 => ?_)
  · skip
    refine sq (h := ?_)
    refine rg (h := ?_)
    refine wy asg ?_
    refine nl (h := ?_)
    refine q_seq (h := ?_)
    refine rtn (h := ?_)
    refine q_then_ret (h := ?_)
    refine q_ret (hR := ?_)
    have hn0 : n = 0 := by
      rcases Nat.eq_zero_or_pos n with e | e
      · exact e
      · obtain ⟨ad, rfl⟩ := h.some_ e
        cases h0
    have hes : es = [] := by have := h.len; rw [hn0] at this; exact List.length_eq_zero_iff.1 this
    exact fun w hS => ⟨(none, 0), trivial, by rw [hn0]; rfl, by rw [hn0, hes]; exact hS.sub slz_⟩
  · skip
    refine skp (h := ?_)
    refine q_seq (h := ?_)
    refine sq (h := ?_)
    refine rg (h := ?_)
    refine bs (h := fun b0 => ?_)
    refine wy mv ?_
    first | refine ap (h := fun A1 c1 => ?_) | refine ap0 (h := fun A1 c1 => ?_)
    refine wy asg ?_
    refine nl (h := ?_)
    refine q_seq (h := ?_)
    refine rtn (h := ?_)
    refine q_ret (hR := ?_)
    exact fun w hS => ⟨(_, _), trivial, by simp only [Nat.zero_add]; rfl, by simp only [Nat.zero_add, List.nil_append] at hS; exact hS.sub slz_⟩
end Go.Proofs.YtmlhnajgiopfgaaGreat

namespace Go.Proofs.YtmlhnajgiopfgaaGreat
open Go Go.RowKit

def MapJ (es : Array MapEntry) (kv : List (Int × Int)) : Prop := es.toList.map (fun e => (e.key, e.val)) = kv.map fun p => (Value.int .i64 p.1, Value.int .i64 p.2)
def lkJ (kv : List (Int × Int)) (k : Int) : Option Int := (kv.find? fun p => decide (k = p.1)).map (·.2)
theorem mapJ0 : MapJ #[] [] := rfl
theorem lkJ_none {kv : List (Int × Int)} {k : Int} (h : ∀ p ∈ kv, p.1 ≠ k) : lkJ kv k = none := by
  unfold lkJ
  rw [List.find?_eq_none.2 fun p hp => by rw [decide_eq_true_eq]; exact fun e => h p hp e.symm]; rfl
theorem lkJ_snoc {kv : List (Int × Int)} {k v : Int} (h : lkJ kv k = none) : lkJ (kv ++ [(k, v)]) k = some v := by
  unfold lkJ at h ⊢
  rw [Option.map_eq_none_iff] at h
  rw [List.find?_append, h, Option.none_or, List.find?_cons, decide_eq_true rfl]; rfl
theorem findNowJ (k : Int) : ∀ (es : List MapEntry) (kv : List (Int × Int)) (i : Nat), es.map (fun e => (e.key, e.val)) = kv.map (fun p => (Value.int .i64 p.1, Value.int .i64 p.2)) → ∃ j, Instr.findNow (.int .i64) (.int .i64 k) es i = some ((lkJ kv k).map fun v => (j, Value.int .i64 v))
  | [], [], i, _ => ⟨0, rfl⟩
  | [], _ :: _, _, h => by cases h
  | _ :: _, [], _, h => by cases h
  | e :: es, p :: kv, i, h => by
    rw [List.map_cons, List.map_cons] at h
    injection h with h1 h2
    injection h1 with h1 h3
    unfold Instr.findNow
    rw [h1]
    simp only [Instr.sameNow, if_true]
    unfold lkJ
    rw [List.find?_cons]
    by_cases hk : k = p.1
    · rw [decide_eq_true hk, show (k == p.1) = true from beq_iff_eq.2 hk]
      exact ⟨i, by simp [h3]⟩
    · rw [decide_eq_false hk, show (k == p.1) = false from beq_eq_false_iff_ne.2 hk]
      exact findNowJ k es kv (i + 1) h2
section rules
variable {F : Fence} {P : Program} {ops : Array Oper} {Q : Exit → Act → World → Prop} {rest : List Oper} {n : Nat} {D : List Deferred} {l : Env} {w0 : World} {L M : List Ent}
variable {d : Nat} {ty : TypeId} {pos : String} {aft : Array Edge}
theorem run_findKeyJ {kt : TypeId} (hK : P.underlying kt = some (.int .i64)) {es : List MapEntry} {kv : List (Int × Int)} (h : es.map (fun e => (e.key, e.val)) = kv.map (fun p => (Value.int .i64 p.1, Value.int .i64 p.2))) (k : Int) (w : World) : ∃ j, (Instr.findKey kt (.int .i64 k) es).run P w = .ok ((lkJ kv k).map fun v => (j, Value.int .i64 v)) w := by
  obtain ⟨j, hj⟩ := findNowJ k es kv 0 h
  refine ⟨j, ?_⟩
  unfold Instr.findKey
  simp only [Sem.run_bind, run_underlying hK, Result.andThen_ok, hj, Sem.run_pure]
theorem checkKeyJ {kt : TypeId} (hK : P.underlying kt = some (.int .i64)) (em : Bool) (k : Int) (w : World) : (Instr.checkKey em 10000 kt (.int .i64 k)).run P w = .ok () w := by
  have : ∀ d : Nat, (Instr.checkKey em (d + 1) kt (.int .i64 k)).run P w = .ok () w := fun d => by simp [Instr.checkKey, run_underlying hK]
  exact this 9999
theorem shrE {x y : Operand} {a b v : Int} {t u : TypeId} {yk : IntKind} (he : a / 2 ^ b.toNat = v) (hx : ev l x = some (.int .i64 a) := by exact rfl) (hy : ev l y = some (.int yk b) := by exact rfl)
    (h0 : 0 ≤ b ∧ b ≤ 63 := by omega) : Yd P n D l w0 L (.binOp .shr t x y u) (.int .i64 v) := he ▸ shrI (hx := hx) (hy := hy) (h0 := h0)
theorem lkNJ {m x : Operand} {t kt e : TypeId} {size bytes : Nat} {zl : List Value} (hT : MapTy P t kt e := by infer_instance) (hE : Ty P e false size bytes (.int .i64 0) zl := by infer_instance) (hK : P.underlying kt = some (.int .i64) := by kernel_rfl) {b : Nat} {es : Array MapEntry} {c : Nat} {kv : List (Int × Int)} {k v : Int}
    (hm : MapJ es kv) (hv : (lkJ kv k).getD 0 = v) (hx : ev l m = some (.map (some b)) := by exact rfl) (hy : ev l x = some (.int .i64 k) := by exact rfl)
    (ha : At L (.obj b (.map es c)) M := by repeat (first | exact At.here | apply At.there)) : Yd P n D l w0 L (.lookup t m x false) (.int .i64 v) :=
  ⟨by simp, by simp, fun oo ho ac w hfr hst => by
    have hb : w.heap[b]? = some (.map es c) := hst _ ha.mem
    obtain ⟨j, hj⟩ := run_findKeyJ (P := P) hK hm k w
    have hr : (Instr.lookup t (.map (some b)) (.int .i64 k) false).run P w = .ok (.int .i64 v) w := by
      unfold Instr.lookup
      simp only [Sem.run_bind, run_underlying hT.und, Result.andThen_ok, getMap hb, Sem.run_pure, checkKeyJ hK, hj]
      cases hq : lkJ kv k with
      | none => rw [hq] at hv; simp only [Option.map_none, Sem.run_bind, run_zeroValue hE, Result.andThen_ok, Sem.run_pure]; rw [← hv]; rfl
      | some u => rw [hq] at hv; simp only [Option.map_some, Sem.run_pure, Result.andThen_ok]; rw [← hv]; rfl
    simp [execOp, ho, hfr.eval hx, hfr.eval hy, hr]⟩
theorem mupJ {m x y : Operand} {t kt e : TypeId} (hT : MapTy P t kt e := by infer_instance) (hK : P.underlying kt = some (.int .i64) := by kernel_rfl) {b : Nat} {es : Array MapEntry} {c : Nat} {kv : List (Int × Int)} {k v : Int}
    (hm : MapJ es kv) (hno : lkJ kv k = none) (hx : ev l m = some (.map (some b)) := by exact rfl) (hy : ev l x = some (.int .i64 k) := by exact rfl) (hv : ev l y = some (.int .i64 v) := by exact rfl)
    (ha : At L (.obj b (.map es c)) M := by repeat (first | exact At.here | apply At.there)) (h : ∀ es' c', MapJ es' (kv ++ [(k, v)]) → WL F P ops Q rest n D l w0 (.obj b (.map es' c') :: M)) : WL F P ops Q (⟨none, .mapUpdate t m x y, ty, pos, aft, none⟩ :: rest) n D l w0 L := by
  intro hF a w hfr hst
  have hst1 := hst.pull ha
  have hb := hst1.objAt
  obtain ⟨j, hj⟩ := run_findKeyJ (P := P) hK hm k w
  rw [hno] at hj
  have hr : (Instr.mapUpdate t (.map (some b)) (.int .i64 k) (.int .i64 v)).run P w = .ok () (w.putObj b (.map (es.push { key := .int .i64 k, val := .int .i64 v, born := c }) (c + 1))) := by
    unfold Instr.mapUpdate
    simp only [Sem.run_bind, run_underlying hT.und, Result.andThen_ok, getMap hb, Sem.run_pure, checkKeyJ hK, hj, Option.map_none, putMap _ hb]
  have he : (execOp a.eval ⟨none, .mapUpdate t m x y, ty, pos, aft, none⟩).run P w = .ok .skip (w.putObj b (.map (es.push { key := .int .i64 k, val := .int .i64 v, born := c }) (c + 1))) := by
    simp [execOp, hfr.eval hx, hfr.eval hy, hfr.eval hv, hr]
  show (if _ then _ else _)
  rw [if_pos (by simp [Region.wanted])]
  refine ⟨fun f _ => hF.fn f, ?_⟩
  rw [semAt_plain (by simp), he]
  refine h _ _ ?_ hF _ _ (hfr.put_none (.bool true)) (hst1.putObj _)
  have hm' : es.toList.map (fun e => (e.key, e.val)) = kv.map fun p => (Value.int .i64 p.1, Value.int .i64 p.2) := hm
  simp only [MapJ, Array.toList_push, List.map_append, hm', List.map_cons, List.map_nil]
end rules

theorem C_br_within (n lo hi : Int) (h : lo ≤ n ∧ n ≤ hi) (w : World) : C0 Tryz.prog 78 [.int .i64 n, .int .i64 lo, .int .i64 hi] w (.bool true) := by
  have h1 : decide (lo ≤ n) = true := decide_eq_true h.1
  have h2 : decide (n ≤ hi) = true := decide_eq_true h.2
  refine ⟨en Tryz.func78 Tryz.ntmps78 (St.init w) (h := fun F => ?_)⟩
  refine sq (h := ?_)
  refine rg (h := ?_)
  refine wy asg ?_
  refine nl (h := ?_)
  refine q_seq (h := ?_)
  refine sq (h := ?_)
  refine rg (h := ?_)
  refine wy mv ?_
  refine wy mv ?_
  refine wy ((Yd.tr (leq) (by exact h1))) ?_
  refine wy mv ?_
  refine un (h := ?_)
  refine wy mv ?_
  refine un (h := ?_)
  refine wy mv ?_
  refine un (h := ?_)
  refine wy ((Yd.tr (leq) (by exact h2))) ?_
  refine wy (by first | exact pkT | exact pkF) ?_
  refine wy asg ?_
  refine nl (h := ?_)
  refine q_seq (h := ?_)
  refine rtn (h := ?_)
  refine q_ret (hR := ?_)
  exact fun w hS => ⟨rfl, hS.sub slz_⟩
theorem C_br_of (r s : Nat) (hr : r ≤ 60) (w : World) : C0 Tryz.prog 83 [.int .i64 r, .int .i64 s] w (.agg #[.int .i64 r, .int .i64 (s / 2 ^ (r + 1) : Nat)]) := by
  have he : (s : Int) / 2 ^ ((r : Int) + 1).toNat = ((s / 2 ^ (r + 1) : Nat) : Int) := by rw [show ((r : Int) + 1).toNat = r + 1 by omega, div_cast]
  refine ⟨en Tryz.func83 Tryz.ntmps83 (St.init w) (h := fun F => ?_)⟩
  refine sq (h := ?_)
  refine rg (h := ?_)
  refine al (h := fun b0 => ?_)
  refine nl (h := ?_)
  refine q_seq (h := ?_)
  refine sq (h := ?_)
  refine rg (h := ?_)
  refine wy mv ?_
  refine wy mv ?_
  refine wy mv ?_
  refine wy addI ?_
  refine wy (shrE he) ?_
  refine wy bd ?_
  first | refine stA (h := ?_) | refine stEA (h := ?_)
  refine nl (h := ?_)
  refine q_seq (h := ?_)
  refine rtn (h := ?_)
  refine q_ret (hR := ?_)
  exact fun w hS => ⟨rfl, hS.sub slz_⟩
theorem len_sz {t : Tre} (ht : TOk t) {r : Int} (h : 0 ≤ r ∧ r ≤ t.R - 1) : (t.sl.length : Int) / 2 ^ (r + 1).toNat = t.sz r := by
  have hR := ht.r
  have e : t.R.toNat = (t.R - 1 - r).toNat + (r + 1).toNat := by omega
  unfold Tre.sz
  rw [ht.n, e, Nat.pow_add]
  push_cast
  rw [Int.mul_ediv_cancel _ (by have : (0 : Int) < 2 ^ (r + 1).toNat := Int.pow_pos (by omega); omega)]
theorem C_br_in (t : Tre) (ht : TOk t) (r p : Int) (hm : matchB t r p = true) (w : World) : C0 Tryz.prog 74 [.agg #[.int .i64 r, .int .i64 p], t.val] w (.bool true) := by
  obtain ⟨h1, h2⟩ := match_rng hm
  have hl := len_sz ht h1
  have hR := ht.r
  have hz : t.sz r ≤ 32 := by
    have := szN_le (t := t) (by omega) r.toNat
    rw [show r = ((r.toNat : Nat) : Int) by omega, szN_eq (by omega)]; omega
  refine ⟨en Tryz.func74 Tryz.ntmps74 (St.init w) (h := fun F => ?_)⟩
  refine sq (h := ?_)
  refine rg (h := ?_)
  refine bxA (h := fun b0 => ?_)
  refine bxA (h := fun b1 => ?_)
  refine wy asg ?_
  refine nl (h := ?_)
  refine q_seq (h := ?_)
  refine sq (h := ?_)
  refine rgD (by kernel_rfl) [(1000000, .blk b0 93 [.int .i64 r, .int .i64 p]), (1000000, .blk b1 24 t.cells)] (by repeat (first | exact HS.nil | (apply HS.keep; (repeat (first | exact At.here | apply At.there))) | (apply HS.ro; (repeat (first | exact Rds.ro | exact Rds.own | apply Rds.there))))) (h := ?_)
  refine tk 0 (hy := (by first | exact fa | exact faE)) (h := ?_)
  refine tk 1 (hy := (by first | exact ld | exact ldE)) (h := ?_)
  refine tk 2 (hy := (by first | exact fa | exact faE)) (h := ?_)
  refine tk 3 (hy := (by first | exact ld | exact ldE)) (h := ?_)
  refine tk 4 (hy := subI) (h := ?_)
  refine one 5 (h := ?_)
  refine cl0 (hc := fun w hS => C_br_within _ _ _ (by omega) w) (h := ?_)
  refine nx (h := ?_)
  refine tk 6 (hy := mv) (h := ?_)
  refine tk 7 (hy := (by first | exact fa | exact faE)) (h := ?_)
  refine tk 8 (hy := (by first | exact ld | exact ldE)) (h := ?_)
  refine tk 9 (hy := (by first | exact fa | exact faE)) (h := ?_)
  refine tk 10 (hy := (by first | exact ld | exact ldE)) (h := ?_)
  refine tk 11 (hy := lenS) (h := ?_)
  refine tk 12 (hy := (by first | exact fa | exact faE)) (h := ?_)
  refine tk 13 (hy := (by first | exact ld | exact ldE)) (h := ?_)
  refine tk 14 (hy := addI) (h := ?_)
  refine tk 15 (hy := shrE hl) (h := ?_)
  refine tk 16 (hy := subI) (h := ?_)
  refine one 17 (h := ?_)
  refine un (h := ?_)
  refine cl0 (hc := fun w hS => C_br_within _ _ _ (by omega) w) (h := ?_)
  refine nx (h := ?_)
  refine tk 18 (hy := (by first | exact pkT | exact pkF)) (h := ?_)
  refine tk 19 (hy := asg) (h := ?_)
  refine dn (h := ?_)
  refine q_seq (h := ?_)
  refine rtn (h := ?_)
  refine q_ret (hR := ?_)
  exact fun w hS => ⟨rfl, hS.sub slz_⟩
end Go.Proofs.YtmlhnajgiopfgaaGreat

namespace Go.Proofs.YtmlhnajgiopfgaaGreat
open Go Go.RowKit

theorem TOk.twin {t : Tre} (h : TOk t) {k : Nat} (hk : k < t.sl.length) (he : t.sl.getD k 0 = -1) : twin k < t.sl.length ∧ t.sl.getD (twin k) 0 ≠ -1 := by
  have hl := twin_lt hk h.even
  refine ⟨hl, fun e => ?_⟩
  have h1 := TOk.at_ hk
  have h2 := TOk.at_ hl
  rw [he] at h1
  rw [e] at h2
  unfold Go.Proofs.YtmlhnajgiopfgaaGreat.twin at h2
  by_cases c : k % 2 = 0
  · rw [if_pos c] at h2
    exact h.nb (k / 2) (by rw [show 2 * (k / 2) = k by omega]; exact h1) (by rw [show 2 * (k / 2) + 1 = k + 1 by omega]; exact h2)
  · rw [if_neg c] at h2
    exact h.nb (k / 2) (by rw [show 2 * (k / 2) = k - 1 by omega]; exact h2) (by rw [show 2 * (k / 2) + 1 = k by omega]; exact h1)
structure TrZ where
  (k : Nat) (es : Array MapEntry) (c : Nat) (kv : List (Int × Int))
set_option maxRecDepth 100000 in
theorem C_br_isTree (t : Tre) (ht : TOk t) (w : World) (h : Rd w t.A 1 t.sl.length (enI t.sl)) : C0 Tryz.prog 55 [t.val] w (.bool true) := by
  have hR := ht.r
  have hp := pow_le_16 (k := t.R.toNat) (by omega)
  have hN2 : (t.sl.length : Int) = 1 * 2 ^ t.R.toNat := by rw [ht.n, Int.one_mul]; push_cast; rfl
  have hle := tre_le ht
  refine ⟨en Tryz.func55 Tryz.ntmps55 ((St.init w).share (e := .ro t.A 1 t.sl.length (enI t.sl)) h rfl rfl rfl) (h := fun F => ?_)⟩
  refine sq (h := ?_)
  refine rg (h := ?_)
  refine bxA (h := fun b0 => ?_)
  refine wy asg ?_
  refine nl (h := ?_)
  refine q_seq (h := ?_)
  refine sq (h := ?_)
  refine sq (h := ?_)
  refine rgD (by kernel_rfl) [(1000000, .blk b0 24 t.cells)] (by repeat (first | exact HS.nil | (apply HS.keep; (repeat (first | exact At.here | apply At.there))) | (apply HS.ro; (repeat (first | exact Rds.ro | exact Rds.own | apply Rds.there))))) (h := ?_)
  refine tk 0 (hy := (by first | exact fa | exact faE)) (h := ?_)
  refine tk 1 (hy := (by first | exact ld | exact ldE)) (h := ?_)
  refine one 2 (h := ?_)
  refine cl0 (hc := fun w hS => C_br_within _ _ _ (by omega) w) (h := ?_)
  refine nx (h := ?_)
  refine tk 3 (hy := notB) (h := ?_)
  refine tk 4 (hy := mv) (h := ?_)
  refine tk 5 (hy := (by first | exact fa | exact faE)) (h := ?_)
  refine tk 6 (hy := (by first | exact ld | exact ldE)) (h := ?_)
  refine tk 7 (hy := lenS) (h := ?_)
  refine tk 8 (hy := (by first | exact fa | exact faE)) (h := ?_)
  refine tk 9 (hy := (by first | exact ld | exact ldE)) (h := ?_)
  refine tk 10 (hy := shlI (hb := by omega)) (h := ?_)
  refine tk 11 (hy := (Yd.fl (neq) (by rw [decide_eq_true hN2]; rfl))) (h := ?_)
  refine tk 12 (hy := (by first | exact pkT | exact pkF)) (h := ?_)
  refine dn (h := ?_)
  refine q_seq (h := ?_)
  refine cdF (h := ?_)
  refine skp (h := ?_)
  refine q_seq (h := ?_)
  refine sq (h := ?_)
  refine rg (h := ?_)
  refine mkm (h := fun b1 => ?_)
  refine wy asg ?_
  refine nl (h := ?_)
  refine q_seq (h := ?_)
  refine sq (h := ?_)
  refine sq (h := ?_)
  refine rg (h := ?_)
  refine wy (by first | exact fa | exact faE) ?_
  refine wy (by first | exact ld | exact ldE) ?_
  refine wy lenS ?_
  refine wy mv ?_
  refine nl (h := ?_)
  refine q_seq (h := ?_)
  refine bk (h := ?_)
  refine lp (X := TrZ) (I := fun z => z.k ≤ t.sl.length ∧ MapJ z.es z.kv ∧ ∀ p ∈ z.kv, ∃ j, j < z.k ∧ t.sl.getD j 0 = p.1 ∧ p.1 ≠ -1) (le := fun z => [(1, .pointer (some ⟨b0, 0, none⟩)), (3, .map (some b1)), (21, .slice t.A t.sl.length t.c), (22, .int .i64 t.sl.length), (23, .int .i64 z.k)]) (Le := fun z => [.obj b1 (.map z.es z.c), .blk b0 24 t.cells, .ro t.A 1 t.sl.length (enI t.sl)]) (μ := fun z => t.sl.length - z.k) ⟨0, #[], 0, []⟩ ⟨Nat.zero_le _, mapJ0, fun p hp => by cases hp⟩ sbz_ slz_ (fun z hz => ?_)
  obtain ⟨hz1, hz2, hz3⟩ := hz
  refine sq (h := ?_)
  refine rg (h := ?_)
  refine wy lss ?_
  refine nl (h := ?_)
  refine q_seq (h := ?_)
  refine sq (h := ?_)
  refine cd (by exact rfl) (fun h1 => ?_) (fun h1 => ?_)
  · skip
    have hin : z.k < t.sl.length := by have := of_decide_eq_true h1; omega
    have hxe := enI_at (TOk.at_ hin)
    have hrg := ht.rng z.k _ (TOk.at_ hin)
    refine skp (h := ?_)
    refine q_seq (h := ?_)
    refine sq (h := ?_)
    refine bk (h := ?_)
    refine sq (h := ?_)
    refine rg (h := ?_)
    refine wy mv ?_
    refine wy (ix (A := t.A) (m := t.sl.length) (hb := by omega)) ?_
    refine wy (ldE (A := t.A) (hk := hxe)) ?_
    refine wy asg ?_
    refine WL.cut (by repeat (first | exact Cut.nil | apply Cut.hit | apply Cut.miss (by exact rfl))) ?_
    refine wy asg ?_
    refine WL.cut (by repeat (first | exact Cut.nil | apply Cut.hit | apply Cut.miss (by exact rfl))) ?_
    refine nl (h := ?_)
    refine q_seq (h := ?_)
    refine sq (h := ?_)
    refine sq (h := ?_)
    refine rg (h := ?_)
    refine wy mv ?_
    refine wy eql ?_
    refine nl (h := ?_)
    refine q_seq (h := ?_)
    refine cd (by exact rfl) (fun h2 => ?_) (fun h2 => ?_)
    · skip
      have hx1 : t.sl.getD z.k 0 = -1 := of_decide_eq_true h2
      have htw := ht.twin hin hx1
      have hye := enI_at (TOk.at_ htw.1)
      refine sq (h := ?_)
      refine sq (h := ?_)
      refine rg (h := ?_)
      refine wy (by first | exact fa | exact faE) ?_
      refine wy (by first | exact ld | exact ldE) ?_
      refine wy mv ?_
      refine wy xorI ?_
      rw [xorV_one (by omega)]
      refine wy (ix (A := t.A) (m := t.sl.length) (hb := by omega)) ?_
      refine wy (ldE (A := t.A) (hk := hye)) ?_
      refine wy ((Yd.fl (eql) (by exact decide_eq_false htw.2))) ?_
      refine nl (h := ?_)
      refine q_seq (h := ?_)
      refine cdF (h := ?_)
      refine skp (h := ?_)
      refine q_seq (h := ?_)
      refine et (h := ?_)
      refine q_then_exit (h := ?_)
      refine q_blk_hit (h := ?_)
      refine q_seq (h := ?_)
      refine rg (h := ?_)
      refine wy addI ?_
      refine wy mv ?_
      refine nl (h := ?_)
      first
        | (have h9 := htw.1; refine rn (x := z) ⟨z.k + 1, z.es, z.c, z.kv⟩ ⟨hin, hz2, fun p hp => by
            obtain ⟨j, h1, h2⟩ := hz3 p hp
            exact ⟨j, by dsimp only; omega, h2⟩⟩ (by dsimp only; omega) sbz_ slz_; done)
        | (have h9 := hno; refine rn (x := z) ⟨z.k + 1, es2, c2, _⟩ ⟨hin, hm2, fun p hp => by
            rcases List.mem_append.1 hp with hp | hp
            · obtain ⟨j, h1, h2⟩ := hz3 p hp
              exact ⟨j, by dsimp only; omega, h2⟩
            · rw [List.mem_singleton] at hp
              subst hp
              exact ⟨z.k, by dsimp only; omega, rfl, hx1⟩⟩ (by dsimp only; omega) sbz_ slz_; done)
    · skip
      have hx1 : ¬ t.sl.getD z.k 0 = -1 := of_decide_eq_false h2
      have hno : lkJ z.kv (t.sl.getD z.k 0) = none := lkJ_none fun p hp e => by
        obtain ⟨j, h1, h2, h3⟩ := hz3 p hp
        have := ht.inj j z.k p.1 (by rw [← h2]; exact TOk.at_ (by omega)) (by rw [e]; exact TOk.at_ hin) h3
        omega
      refine skp (h := ?_)
      refine q_seq (h := ?_)
      refine sq (h := ?_)
      refine rg (h := ?_)
      refine wy mv ?_
      refine wy mv ?_
      refine wy (lkNJ (v := 0) (hm := hz2) (hv := by rw [hno]; rfl)) ?_
      refine wy addI ?_
      refine mupJ (hm := hz2) (hno := hno) (h := fun es2 c2 hm2 => ?_)
      refine nl (h := ?_)
      refine q_seq (h := ?_)
      refine sq (h := ?_)
      refine rg (h := ?_)
      refine wy mv ?_
      refine wy mv ?_
      refine wy (lkNJ (hm := hm2) (hv := by rw [lkJ_snoc hno])) ?_
      refine wy ((Yd.fl (gtr) (by decide))) ?_
      refine wy mv ?_
      refine un (h := ?_)
      refine wy mv ?_
      refine un (h := ?_)
      refine cl0 (hc := fun w hS => C_br_within _ _ _ (by omega) w) (h := ?_)
      refine un (h := ?_)
      refine wy notB ?_
      refine wy (by first | exact pkT | exact pkF) ?_
      refine nl (h := ?_)
      refine q_seq (h := ?_)
      refine cdF (h := ?_)
      refine skp (h := ?_)
      refine q_blk_norm (h := ?_)
      refine q_seq (h := ?_)
      refine rg (h := ?_)
      refine wy addI ?_
      refine wy mv ?_
      refine nl (h := ?_)
      first
        | (have h9 := htw.1; refine rn (x := z) ⟨z.k + 1, z.es, z.c, z.kv⟩ ⟨hin, hz2, fun p hp => by
            obtain ⟨j, h1, h2⟩ := hz3 p hp
            exact ⟨j, by dsimp only; omega, h2⟩⟩ (by dsimp only; omega) sbz_ slz_; done)
        | (have h9 := hno; refine rn (x := z) ⟨z.k + 1, es2, c2, _⟩ ⟨hin, hm2, fun p hp => by
            rcases List.mem_append.1 hp with hp | hp
            · obtain ⟨j, h1, h2⟩ := hz3 p hp
              exact ⟨j, by dsimp only; omega, h2⟩
            · rw [List.mem_singleton] at hp
              subst hp
              exact ⟨z.k, by dsimp only; omega, rfl, hx1⟩⟩ (by dsimp only; omega) sbz_ slz_; done)
  · skip
    refine et (h := ?_)
    refine q_then_exit (h := ?_)
    refine q_then_exit (h := ?_)
    refine q_blk_hit (h := ?_)
    refine q_seq (h := ?_)
    refine sq (h := ?_)
    refine rg (h := ?_)
    refine wy asg ?_
    refine nl (h := ?_)
    refine q_seq (h := ?_)
    refine rtn (h := ?_)
    refine q_ret (hR := ?_)
    exact fun w hS => ⟨rfl, hS.sub slz_⟩
theorem enI_two {l : List Int} {k : Nat} (h : k + 2 ≤ l.length) : ((enI l).drop k).take 2 = enI [l.getD k 0, l.getD (k + 1) 0] := by
  have e : (l.drop k).take 2 = [l.getD k 0, l.getD (k + 1) 0] := by
    rw [List.drop_eq_getElem_cons (by omega), List.drop_eq_getElem_cons (by omega), getD_lt (by omega), getD_lt (by omega)]; rfl
  rw [← e]
  unfold enI
  rw [List.map_take, List.map_drop]
theorem slp_lucky {t : Tre} {x : Sl} (h : slpB t x = true) (hk : x.kind = 5) : x.round = 0 ∧ (0 ≤ x.place ∧ x.place ≤ t.sl.length - 1) ∧ 0 ≤ x.old ∧ x.old ≤ 999 := by
  unfold slpB at h
  rw [decide_eq_true hk, cond_true] at h
  simp only [Bool.and_eq_true, decide_eq_true_eq, win] at h
  exact ⟨h.2.1.1, h.2.1.2, h.2.2⟩
theorem slp_nobye {t : Tre} {x : Sl} (h : slpB t x = true) (hk : x.kind ≠ 5) : 0 < x.round ∨ (t.sl.getD (2 * x.place).toNat 0 ≠ -1 ∧ t.sl.getD (2 * x.place + 1).toNat 0 ≠ -1) := by
  unfold slpB at h
  rw [decide_eq_false hk, cond_false] at h
  simp only [Bool.and_eq_true, Bool.or_eq_true, decide_eq_true_eq, Bool.not_eq_true', decide_eq_false_iff_not] at h
  exact h.2.2
set_option maxRecDepth 100000 in
theorem C_br_isSlip (t : Tre) (x : Sl) (ht : TOk t) (hc : t.sl.length ≤ t.c) (hx : slpB t x = true) (w : World) (h : Rd w t.A 1 t.sl.length (enI t.sl)) : C0 Tryz.prog 58 [t.val, x.val] w (.bool true) := by
  have hpl := slp_player hx
  have hz := ht.sz0
  have hle := tre_le ht
  refine ⟨en Tryz.func58 Tryz.ntmps58 ((St.init w).share (e := .ro t.A 1 t.sl.length (enI t.sl)) h rfl rfl rfl) (h := fun F => ?_)⟩
  refine sq (h := ?_)
  refine rg (h := ?_)
  refine bxA (h := fun b0 => ?_)
  refine bxA (h := fun b1 => ?_)
  refine wy asg ?_
  refine nl (h := ?_)
  refine q_seq (h := ?_)
  refine sq (h := ?_)
  refine sq (h := ?_)
  refine rg (h := ?_)
  refine wy (by first | exact fa | exact faE) ?_
  refine wy (by first | exact ld | exact ldE) ?_
  refine cl0 (hc := fun w hS => C_br_within _ _ _ (by omega) w) (h := ?_)
  refine wy notB ?_
  refine nl (h := ?_)
  refine q_seq (h := ?_)
  refine cdF (h := ?_)
  refine skp (h := ?_)
  refine q_seq (h := ?_)
  refine sq (h := ?_)
  refine sq (h := ?_)
  refine rg (h := ?_)
  refine wy (by first | exact fa | exact faE) ?_
  refine wy (by first | exact ld | exact ldE) ?_
  refine wy eql ?_
  refine nl (h := ?_)
  refine q_seq (h := ?_)
  refine cd (by exact rfl) (fun h1 => ?_) (fun h1 => ?_)
  · skip
    have k5 : x.kind = 5 := of_decide_eq_true h1
    have hlu := slp_lucky hx k5
    refine sq (h := ?_)
    refine rg (h := ?_)
    refine wy (by first | exact fa | exact faE) ?_
    refine wy (by first | exact ld | exact ldE) ?_
    refine wy ((Yd.tr (eql) (by exact decide_eq_true hlu.1))) ?_
    refine wy mv ?_
    refine un (h := ?_)
    refine wy (by first | exact fa | exact faE) ?_
    refine un (h := ?_)
    refine wy (by first | exact ld | exact ldE) ?_
    refine un (h := ?_)
    refine wy (by first | exact fa | exact faE) ?_
    refine un (h := ?_)
    refine wy (by first | exact ld | exact ldE) ?_
    refine un (h := ?_)
    refine wy lenS ?_
    refine un (h := ?_)
    refine wy subI ?_
    refine un (h := ?_)
    refine cl0 (hc := fun w hS => C_br_within _ _ _ (by omega) w) (h := ?_)
    refine wy (by first | exact pkT | exact pkF) ?_
    refine wy mv ?_
    refine un (h := ?_)
    refine wy (by first | exact fa | exact faE) ?_
    refine un (h := ?_)
    refine wy (by first | exact ld | exact ldE) ?_
    refine un (h := ?_)
    refine cl0 (hc := fun w hS => C_br_within _ _ _ (by omega) w) (h := ?_)
    refine wy (by first | exact pkT | exact pkF) ?_
    refine wy asg ?_
    refine nl (h := ?_)
    refine q_seq (h := ?_)
    refine rtn (h := ?_)
    refine q_then_ret (h := ?_)
    refine q_ret (hR := ?_)
    exact fun w hS => ⟨by first | rfl | (simp only [Bool.not_false, Bool.or_true]; rfl), hS.sub slz_⟩
  · skip
    have k5 : ¬ x.kind = 5 := of_decide_eq_false h1
    have hwo := slp_won hx k5
    have hnb := slp_nobye hx k5
    have hrg := match_rng hwo.2.1
    refine skp (h := ?_)
    refine q_seq (h := ?_)
    refine sq (h := ?_)
    refine rg (h := ?_)
    refine wy (by first | exact fa | exact faE) ?_
    refine wy (by first | exact ld | exact ldE) ?_
    refine wy (by first | exact fa | exact faE) ?_
    refine wy (by first | exact ld | exact ldE) ?_
    refine wy bd ?_
    refine al (h := fun b2 => ?_)
    first | refine stA (h := ?_) | refine stEA (h := ?_)
    refine nl (h := ?_)
    refine q_seq (h := ?_)
    refine sq (h := ?_)
    refine sq (h := ?_)
    refine rg (h := ?_)
    refine wy (by first | exact fa | exact faE) ?_
    refine wy (by first | exact ld | exact ldE) ?_
    refine cl0 (hc := fun w hS => C_br_within _ _ _ (by omega) w) (h := ?_)
    refine wy notB ?_
    refine wy mv ?_
    refine un (h := ?_)
    refine wy (by first | exact fa | exact faE) ?_
    refine un (h := ?_)
    refine wy (by first | exact ld | exact ldE) ?_
    refine un (h := ?_)
    refine wy ((Yd.fl (neq) (by rw [decide_eq_true hwo.2.2]; rfl))) ?_
    refine wy (by first | exact pkT | exact pkF) ?_
    refine wy mv ?_
    refine un (h := ?_)
    refine wy (by first | exact ldA | exact ldEA) ?_
    refine un (h := ?_)
    refine wy (by first | exact ldA | exact ldEA) ?_
    refine un (h := ?_)
    refine cl0 (hc := fun w hS => C_br_in t ht x.round x.place hwo.2.1 w) (h := ?_)
    refine un (h := ?_)
    refine wy notB ?_
    refine wy (by first | exact pkT | exact pkF) ?_
    refine nl (h := ?_)
    refine q_seq (h := ?_)
    refine cdF (h := ?_)
    refine skp (h := ?_)
    refine q_seq (h := ?_)
    refine sq (h := ?_)
    refine rg (h := ?_)
    refine wy (by first | exact fa | exact faE) ?_
    refine wy (by first | exact ld | exact ldE) ?_
    refine wy gtr ?_
    refine wy mv ?_
    apply brOr 13 53 66 (by exact rfl)
    · intro hb3
      have hr0 : x.round = 0 := by have := of_decide_eq_false hb3; omega
      have hpl2 : 0 ≤ x.place ∧ x.place ≤ t.sz 0 - 1 := by have := hrg.2; rw [hr0] at this; exact this
      have hnb2 := hnb.resolve_left (by omega)
      have e2 := enI_two (l := t.sl) (k := (2 * x.place).toNat) (by omega)
      have hno : ([t.sl.getD (2 * x.place).toNat 0, t.sl.getD ((2 * x.place).toNat + 1) 0].any fun y => decide ((-1 : Int) = y)) = false := by
        rw [show (2 * x.place).toNat + 1 = (2 * x.place + 1).toNat by omega]
        simp only [List.any_cons, List.any_nil, Bool.or_false, Bool.or_eq_false_iff, decide_eq_false_iff_not]
        exact ⟨fun e => hnb2.1 e.symm, fun e => hnb2.2 e.symm⟩
      refine un (h := ?_)
      refine wy (by first | exact fa | exact faE) ?_
      refine un (h := ?_)
      refine wy (by first | exact ld | exact ldE) ?_
      refine un (h := ?_)
      refine wy (by first | exact fa | exact faE) ?_
      refine un (h := ?_)
      refine wy (by first | exact ld | exact ldE) ?_
      refine un (h := ?_)
      refine wy (mulI (hb := by omega)) ?_
      refine un (h := ?_)
      refine wy (by first | exact fa | exact faE) ?_
      refine un (h := ?_)
      refine wy (by first | exact ld | exact ldE) ?_
      refine un (h := ?_)
      refine wy (mulI (hb := by omega)) ?_
      refine un (h := ?_)
      refine wy (addI (hb := by omega)) ?_
      refine un (h := ?_)
      refine WL.slice (m := t.sl.length) (lo' := (2 * x.place).toNat) (hi' := (2 * x.place + 2).toNat) inferInstance inferInstance (by exact rfl) atz_ hc (by omega) (.inr ⟨_, _, _, rfl, rfl, by omega, by omega, rfl⟩) (.inr ⟨_, _, _, rfl, rfl, by omega, by omega, rfl⟩) rfl (h := fun A2 c2 _ => ?_)
      rw [show (2 * x.place + 2).toNat - (2 * x.place).toNat = 2 by omega, e2]
      refine un (h := ?_)
      refine cl0 (hc := fun w hS => C_slices_Contains [t.sl.getD (2 * x.place).toNat 0, t.sl.getD ((2 * x.place).toNat + 1) 0] (-1) A2 2 c2 w (hS.get rdz_) (by omega)) (h := ?_)
      rw [hno]
      refine un (h := ?_)
      refine wy notB ?_
      refine wy (by first | exact pkT | exact pkF) ?_
      exact mg (by repeat (first | exact trivial | refine ⟨rfl, ?_⟩ | refine ⟨by rw [hb3]; rfl, ?_⟩)) slz_
    · intro hb3
      repeat (first | refine un (h := ?_) | refine sk (h := ?_) | refine WL.y (hy := pkF) (h := ?_) | refine WL.y (hy := pkT) (h := ?_))
      exact mg (by repeat (first | exact trivial | refine ⟨rfl, ?_⟩ | refine ⟨by rw [hb3]; rfl, ?_⟩)) slz_
    refine wy asg ?_
    refine nl (h := ?_)
    refine q_seq (h := ?_)
    refine rtn (h := ?_)
    refine q_ret (hR := ?_)
    exact fun w hS => ⟨by first | rfl | (simp only [Bool.not_false, Bool.or_true]; rfl), hS.sub slz_⟩
theorem C_IndexSlip {A : Option Addr} {n c : Nat} {es : List (List Value)} {g : FuncId} (hg : FnOk Tryz.prog g) (fi cap : List Value) (Lp : List Ent) (p : Nat → Bool) (hn : n ≤ 9223372036854775807)
    (hp : ∀ k cs, es[k]? = some cs → Tr Tryz.prog g (fi ++ [.agg cs.toArray] ++ cap) (.ro A 5 n es :: Lp) (fun _ : Unit => True) (fun _ => .bool (p k)) (fun _ => .ro A 5 n es :: Lp)) :
    Tr Tryz.prog 79 [.slice A n c, .func (.func g) fi.toArray cap.toArray] (.ro A 5 n es :: Lp) (Fst p n) (fun j => .int .i64 j) (fun _ => .ro A 5 n es :: Lp) := by
  refine ⟨fun w0 w R hst => ?_⟩
  have hlen : es.length = n := (hst.ok (.ro A 5 n es) (by simp)).len
  refine en Tryz.func79 Tryz.ntmps79 hst (h := fun F => ?_)
  refine sq (h := ?_)
  refine rg (h := ?_)
  refine wy asg ?_
  refine nl (h := ?_)
  refine q_seq (h := ?_)
  refine sq (h := ?_)
  refine sq (h := ?_)
  refine rg (h := ?_)
  refine wy mv ?_
  refine wy lenS ?_
  refine wy mv ?_
  refine nl (h := ?_)
  refine q_seq (h := ?_)
  refine bk (h := ?_)
  refine lp (X := Nat) (I := fun k => k ≤ n ∧ ∀ i, i < k → p i = false) (le := fun k => [(0, .slice A n c), (1, .func (.func g) fi.toArray cap.toArray), (7, .int .i64 n), (8, .int .i64 k)]) (Le := fun _ => .ro A 5 n es :: (Lp ++ R)) (μ := fun k => n - k) 0 ⟨by omega, fun i hi => by omega⟩ sbz_ (SubL.refl _) (fun k hk => ?_)
  obtain ⟨hk, hall⟩ := hk
  refine sq (h := ?_)
  refine rg (h := ?_)
  refine wy lss ?_
  refine nl (h := ?_)
  refine q_seq (h := ?_)
  refine sq (h := ?_)
  refine cd (by exact rfl) (fun h0 => ?_) (fun h0 => ?_)
  · skip
    have hkn : k < n := by simp only [decide_eq_true_eq] at h0; omega
    have hes : es[k]? = some es[k] := List.getElem?_eq_getElem (by omega)
    refine skp (h := ?_)
    refine q_seq (h := ?_)
    refine sq (h := ?_)
    refine bk (h := ?_)
    refine sq (h := ?_)
    refine rg (h := ?_)
    refine wy mv ?_
    refine wy asg ?_
    refine nl (h := ?_)
    refine q_seq (h := ?_)
    refine sq (h := ?_)
    refine rg (h := ?_)
    refine wy mv ?_
    refine wy mv ?_
    refine wy mv ?_
    refine wy ix ?_
    refine wy (ldEW (k := k) (cs := es[k]) (hk := hes)) ?_
    refine clfT hg (fi := fi) (cap := cap) (by exact rfl) (by repeat (first | exact Evs.nil | (apply Evs.cons; exact rfl))) (hp k _ hes) rfl (Spl.cons .here (Spl.app _ _)) (h := fun _ _ => ?_)
    refine nl (h := ?_)
    refine q_seq (h := ?_)
    refine cd (by exact rfl) (fun h1 => ?_) (fun h1 => ?_)
    · skip
      refine sq (h := ?_)
      refine rg (h := ?_)
      refine wy mv ?_
      refine wy asg ?_
      refine nl (h := ?_)
      refine q_seq (h := ?_)
      refine rtn (h := ?_)
      refine q_blk_ret (h := ?_)
      refine q_then_ret (h := ?_)
      refine q_then_ret (h := ?_)
      refine q_blk_ret (h := ?_)
      refine q_then_ret (h := ?_)
      refine q_ret (hR := ?_)
      exact fun w hS => ⟨_, .inl ⟨k, hkn, rfl, by assumption, hall⟩, rfl, hS⟩
    · skip
      refine skp (h := ?_)
      refine q_blk_norm (h := ?_)
      refine q_seq (h := ?_)
      refine rg (h := ?_)
      refine wy addI ?_
      refine wy mv ?_
      refine nl (h := ?_)
      refine rn (k + 1) ⟨by omega, fun i hi => ?_⟩ (by omega) sbz_ (SubL.refl _)
      rcases Nat.lt_succ_iff_lt_or_eq.1 hi with h | rfl
      · exact hall i h
      · assumption
  · skip
    have hkn : k = n := by simp only [decide_eq_false_iff_not] at h0; omega
    refine et (h := ?_)
    refine q_then_exit (h := ?_)
    refine q_then_exit (h := ?_)
    refine q_blk_hit (h := ?_)
    refine q_seq (h := ?_)
    refine sq (h := ?_)
    refine rg (h := ?_)
    refine wy asg ?_
    refine nl (h := ?_)
    refine q_seq (h := ?_)
    refine rtn (h := ?_)
    refine q_ret (hR := ?_)
    exact fun w hS => ⟨_, .inr ⟨rfl, by subst hkn; exact hall⟩, rfl, hS⟩
theorem C_ContainsSlip {A : Option Addr} {n c : Nat} {es : List (List Value)} {g : FuncId} (hg : FnOk Tryz.prog g) (fi cap : List Value) (Lp : List Ent) (p : Nat → Bool) (hn : n ≤ 9223372036854775807)
    (hp : ∀ k cs, es[k]? = some cs → Tr Tryz.prog g (fi ++ [.agg cs.toArray] ++ cap) (.ro A 5 n es :: Lp) (fun _ : Unit => True) (fun _ => .bool (p k)) (fun _ => .ro A 5 n es :: Lp)) :
    Tr Tryz.prog 56 [.slice A n c, .func (.func g) fi.toArray cap.toArray] (.ro A 5 n es :: Lp) (fun _ : Unit => True) (fun _ => .bool ((List.range n).any p)) (fun _ => .ro A 5 n es :: Lp) := by
  refine ⟨fun w0 w R hst => ?_⟩
  refine en Tryz.func56 Tryz.ntmps56 hst (h := fun F => ?_)
  refine sq (h := ?_)
  refine rg (h := ?_)
  refine wy asg ?_
  refine nl (h := ?_)
  refine q_seq (h := ?_)
  refine sq (h := ?_)
  refine rg (h := ?_)
  refine wy mv ?_
  refine wy mv ?_
  refine clT (hc := C_IndexSlip hg fi cap Lp p hn hp) (hs := Spl.cons .here (Spl.app _ _)) (h := fun x0 hx0 => ?_)
  refine wy geq ?_
  refine wy asg ?_
  refine nl (h := ?_)
  refine q_seq (h := ?_)
  refine rtn (h := ?_)
  refine q_ret (hR := ?_)
  exact fun w hS => ⟨(), trivial, by simp only [resV, hx0.any], hS⟩
theorem T_br_open1 (t : Tre) (ht : TOk t) (hc : t.sl.length ≤ t.c) (b : Nat) (x : Sl) (hx : slpB t x = true) : Tr Tryz.prog 57 [x.val, .pointer (some ⟨b, 0, none⟩)] [.blk b 24 t.cells, .ro t.A 1 t.sl.length (enI t.sl)] (fun _ : Unit => True) (fun _ => .bool false) (fun _ => [.blk b 24 t.cells, .ro t.A 1 t.sl.length (enI t.sl)]) := by
  refine ⟨fun w0 w R hst => ?_⟩
  refine en Tryz.func57 Tryz.ntmps57 hst (h := fun F => ?_)
  refine sq (h := ?_)
  refine rg (h := ?_)
  refine bxA (h := fun b0 => ?_)
  refine wy asg ?_
  refine nl (h := ?_)
  refine q_seq (h := ?_)
  refine sq (h := ?_)
  refine rg (h := ?_)
  refine wy (by first | exact ldA | exact ldEA) ?_
  refine wy (by first | exact ldA | exact ldEA) ?_
  refine cl0 (hc := fun w hS => C_br_isSlip t x ht hc hx w (hS.get rdz_)) (h := ?_)
  refine wy notB ?_
  refine wy asg ?_
  refine nl (h := ?_)
  refine q_seq (h := ?_)
  refine rtn (h := ?_)
  refine q_ret (hR := ?_)
  exact fun w hS => ⟨(), trivial, rfl, hS.sub slz_⟩
end Go.Proofs.YtmlhnajgiopfgaaGreat

namespace Go.Proofs.YtmlhnajgiopfgaaGreat
open Go Go.RowKit

theorem updM_keys : ∀ (kv : List (List Fl × Value)) (k : List Fl) (v : Value), (updM kv k v).map Prod.fst = if k ∈ kv.map Prod.fst then kv.map Prod.fst else kv.map Prod.fst ++ [k]
  | [], k, v => by simp [updM]
  | p :: kv, k, v => by
    rw [updM]
    by_cases h : k = p.1
    · rw [if_pos h, if_pos (by rw [h]; simp)]; rw [List.map_cons, List.map_cons, h]
    · rw [if_neg h, List.map_cons, updM_keys kv k v, List.map_cons]
      by_cases h2 : k ∈ kv.map Prod.fst
      · rw [if_pos h2, if_pos (List.mem_cons_of_mem _ h2)]
      · rw [if_neg h2, if_neg (by rw [List.mem_cons, not_or]; exact ⟨h, h2⟩)]; rfl
theorem updM_nodup {kv : List (List Fl × Value)} (h : (kv.map Prod.fst).Nodup) (k : List Fl) (v : Value) : ((updM kv k v).map Prod.fst).Nodup := by
  rw [updM_keys]
  split
  · exact h
  · next h2 =>
    rw [List.nodup_append]
    exact ⟨h, by simp, fun a ha b hb => by rw [List.mem_singleton] at hb; subst hb; exact fun e => h2 (e ▸ ha)⟩
theorem lkp_key {kv : List (List Fl × Value)} {k : List Fl} : (lkp kv k).isSome = true ↔ k ∈ kv.map Prod.fst := by
  unfold lkp
  rw [Option.isSome_map, List.find?_isSome, List.mem_map]
  constructor
  · rintro ⟨p, hp, h⟩; exact ⟨p, hp, (of_decide_eq_true h).symm⟩
  · rintro ⟨p, hp, h⟩; exact ⟨p, hp, decide_eq_true h.symm⟩
theorem mapIs_len {es : Array MapEntry} {kv : List (List Fl × Value)} (h : MapIs es kv) : es.size = kv.length := by
  have := congrArg List.length h
  simpa using this
section rules
variable {P : Program} {n : Nat} {D : List Deferred} {l : Env} {w0 : World} {L M : List Ent}
theorem lkO {m x : Operand} {t kt e : TypeId} {ks : List Bool} {agg : Bool} {size bytes : Nat} {z : Value} {zl : List Value} (hT : MapTy P t kt e := by infer_instance) (hK : FlatTy P kt ks := by infer_instance) (hE : Ty P e agg size bytes z zl := by infer_instance) {b : Nat} {es : Array MapEntry} {c : Nat} {kv : List (List Fl × Value)} {cs : List Value} {k : List Fl} {v : Value} {s : Bool}
    (hm : MapIs es kv) (hs : ∀ p ∈ kv, shapeOf p.1 = ks) (hv : (lkp kv k).getD z = v) (hb : (lkp kv k).isSome = s) (hx : ev l m = some (.map (some b)) := by exact rfl) (hy : ev l x = some (.agg cs.toArray) := by exact rfl) (hl : FlL cs k := by repeat (first | exact FlL.nil | apply FlL.int | apply FlL.bool)) (hk : shapeOf k = ks := by rfl)
    (ha : At L (.obj b (.map es c)) M := by repeat (first | exact At.here | apply At.there)) : Yd P n D l w0 L (.lookup t m x true) (.tuple #[v, .bool s]) := by
  have h := lkC (P := P) (n := n) (D := D) (w0 := w0) (hT := hT) (hK := hK) (hE := hE) (hm := hm) (hs := hs) (hx := hx) (hy := hy) (hl := hl) (hk := hk) (ha := ha)
  rw [hv, hb] at h
  exact h
theorem shI {a b : Int} : shapeOf [.i a, .i b] = [false, false] := rfl
end rules

structure DwX where
  (b : Nat) (pA : Option Addr) (pc : Nat) (mb : Nat)
structure WnX where
  (es : Array MapEntry) (c : Nat) (kv : List (List Fl × Value))
abbrev dwC (t : Tre) (n : Nat) (q : DwX) : List Value := [.int .i64 t.R, .slice t.A t.sl.length t.c, .slice q.pA n q.pc, .map (some q.mb)]
abbrev dwL (t : Tre) (sl : List Int) (q : DwX) (x : WnX) : List Ent := [.blk q.b 97 (dwC t sl.length q), .own q.pA q.pc 3 1 sl.length (enI sl), .obj q.mb (.map x.es x.c)]
abbrev mK (r p : Nat) : List Fl := [.i (r : Int), .i (p : Int)]
structure WonS (M : MM) (x : WnX) : Prop where
  m : MapIs x.es x.kv
  s : ∀ p ∈ x.kv, shapeOf p.1 = [false, false]
  t : Stm x.es x.c
  nd : (x.kv.map Prod.fst).Nodup
  v : ∀ k v, lkp x.kv k = some v → ∃ r p : Nat, k = mK r p ∧ v = .int .i64 (M r p) ∧ M r p ≠ -2
def WonH (M : MM) (x : WnX) (r p : Nat) : Prop := lkp x.kv (mK r p) = some (.int .i64 (M r p))
theorem WonS.nil (M : MM) : WonS M ⟨#[], 0, []⟩ := ⟨rfl, fun p hp => (by cases hp), stm0, List.nodup_nil, fun k v h => (by cases h)⟩
theorem WonS.put {M : MM} {x : WnX} (h : WonS M x) {r p : Nat} {v : Int} (hv : M r p = v) (h2 : v ≠ -2) {es' : Array MapEntry} {c' : Nat} (hm : MapIs es' (updM x.kv (mK r p) (.int .i64 v))) (ht : Stm es' c') :
    WonS M ⟨es', c', updM x.kv (mK r p) (.int .i64 v)⟩ ∧ (∀ r' p', WonH M x r' p' → WonH M ⟨es', c', updM x.kv (mK r p) (.int .i64 v)⟩ r' p') ∧ WonH M ⟨es', c', updM x.kv (mK r p) (.int .i64 v)⟩ r p := by
  subst hv
  refine ⟨⟨hm, updM_shape h.s shI, ht, updM_nodup h.nd _ _, fun k v hk => ?_⟩, fun r' p' hk => ?_, ?_⟩
  · have hk' : lkp (updM x.kv (mK r p) (.int .i64 (M r p))) k = some v := hk
    rw [lkp_upd] at hk'
    split at hk'
    · next e => exact ⟨r, p, e, (Option.some.inj hk').symm, h2⟩
    · exact h.v k v hk'
  · show lkp (updM x.kv (mK r p) (.int .i64 (M r p))) (mK r' p') = _
    rw [lkp_upd]
    split
    · next e =>
      simp only [mK, List.cons.injEq, Fl.i.injEq, Int.natCast_inj, and_true] at e
      rw [e.1, e.2]
    · exact hk
  · show lkp (updM x.kv (mK r p) (.int .i64 (M r p))) (mK r p) = _
    rw [lkp_upd, if_pos rfl]
theorem mK_inj {r p r' p' : Nat} (h : mK r p = mK r' p') : r = r' ∧ p = p' := by
  simpa only [mK, List.cons.injEq, Fl.i.injEq, Int.natCast_inj, and_true] using h
theorem WonS.look {M : MM} {x : WnX} (h : WonS M x) (r p : Nat) : lkp x.kv (mK r p) = none ∨ (lkp x.kv (mK r p) = some (.int .i64 (M r p)) ∧ M r p ≠ -2) := by
  cases e : lkp x.kv (mK r p) with
  | none => exact .inl rfl
  | some v =>
    obtain ⟨r', p', h1, h2, h3⟩ := h.v _ _ e
    obtain ⟨rfl, rfl⟩ := mK_inj h1
    exact .inr ⟨by rw [h2], h3⟩
structure WnZ where
  (k : Nat) (x : WnX)
set_option maxRecDepth 100000 in
theorem T_br_wins (t : Tre) (sl : List Int) (q : DwX) (M : MM) (x : WnX) (hx : WonS M x) (s rd : Nat) (hs : s < sl.length) (hrd : rd ≤ 50) (hM : ∀ r, r ≤ rd → M r (s / 2 ^ (r + 1)) = sl.getD s 0) (hs2 : sl.getD s 0 ≠ -2) (hn : sl.length ≤ 1000) :
    Tr Tryz.prog 82 [.pointer (some ⟨q.b, 0, none⟩), .int .i64 s, .int .i64 rd] (dwL t sl q x) (fun y : WnX => WonS M y ∧ (∀ r p, WonH M x r p → WonH M y r p) ∧ ∀ r, r ≤ rd → WonH M y r (s / 2 ^ (r + 1))) (fun _ => .bool true) (fun y => dwL t sl q y) := by
  refine ⟨fun w0 w R hst => ?_⟩
  have hxe := enI_at (at_getD hs)
  refine en Tryz.func82 Tryz.ntmps82 hst (h := fun F => ?_)
  refine sq (h := ?_)
  refine rg (h := ?_)
  refine wy asg ?_
  refine nl (h := ?_)
  refine q_seq (h := ?_)
  refine sq (h := ?_)
  refine sq (h := ?_)
  refine rg (h := ?_)
  refine wy mv ?_
  refine wy (addI (hb := by omega)) ?_
  refine wy mv ?_
  refine nl (h := ?_)
  refine q_seq (h := ?_)
  refine bk (h := ?_)
  refine lp (X := WnZ) (I := fun z => z.k ≤ rd + 1 ∧ WonS M z.x ∧ (∀ r p, WonH M x r p → WonH M z.x r p) ∧ ∀ r, r < z.k → WonH M z.x r (s / 2 ^ (r + 1))) (le := fun z => [(0, .pointer (some ⟨q.b, 0, none⟩)), (1, .int .i64 s), (12, .int .i64 ((rd : Int) + 1)), (13, .int .i64 z.k)]) (Le := fun z => dwL t sl q z.x ++ R) (μ := fun z => rd + 1 - z.k) ⟨0, x⟩ ⟨Nat.zero_le _, hx, fun r p h9 => h9, fun r hr => absurd hr (Nat.not_lt_zero _)⟩ sbz_ slz_ (fun z hz => ?_)
  obtain ⟨hz1, hz2, hz3, hz4⟩ := hz
  refine sq (h := ?_)
  refine rg (h := ?_)
  refine wy lss ?_
  refine nl (h := ?_)
  refine q_seq (h := ?_)
  refine sq (h := ?_)
  refine cd (by exact rfl) (fun h0 => ?_) (fun h0 => ?_)
  · skip
    have hkn : z.k ≤ rd := by have := of_decide_eq_true h0; omega
    obtain ⟨lv, ls, hlv, hls, hlk⟩ : ∃ (lv : Int) (ls : Bool), (lkp z.x.kv (mK z.k (s / 2 ^ (z.k + 1)))).getD (.int .i64 0) = .int .i64 lv ∧ (lkp z.x.kv (mK z.k (s / 2 ^ (z.k + 1)))).isSome = ls ∧ (ls = true → lv = sl.getD s 0) := by
      rcases hz2.look z.k (s / 2 ^ (z.k + 1)) with h9 | h9
      · rw [h9]; exact ⟨0, false, rfl, rfl, fun h8 => by cases h8⟩
      · rw [h9.1]; exact ⟨_, true, rfl, rfl, fun _ => hM z.k hkn⟩
    refine skp (h := ?_)
    refine q_seq (h := ?_)
    refine sq (h := ?_)
    refine bk (h := ?_)
    refine sq (h := ?_)
    refine rg (h := ?_)
    refine wy mv ?_
    refine wy asg ?_
    refine WL.cut (by repeat (first | exact Cut.nil | apply Cut.hit | apply Cut.miss (by exact rfl))) ?_
    refine nl (h := ?_)
    refine q_seq (h := ?_)
    refine sq (h := ?_)
    refine rg (h := ?_)
    refine wy mv ?_
    refine wy mv ?_
    refine cl0 (hc := fun w hS => C_br_of z.k s (by omega) w) (h := ?_)
    refine al (h := fun b0 => ?_)
    first | refine stA (h := ?_) | refine stEA (h := ?_)
    refine nl (h := ?_)
    refine q_seq (h := ?_)
    refine sq (h := ?_)
    refine sq (h := ?_)
    refine rgD (by kernel_rfl) [(1000000, .blk q.b 97 (dwC t sl.length q)), (1000000, .obj q.mb (.map z.x.es z.x.c)), (1000000, .blk b0 93 [.int .i64 z.k, .int .i64 (s / 2 ^ (z.k + 1) : Nat)])] (by repeat (first | exact HS.nil | (apply HS.keep; (repeat (first | exact At.here | apply At.there))) | (apply HS.ro; (repeat (first | exact Rds.ro | exact Rds.own | apply Rds.there))))) (h := ?_)
    refine tk 0 (hy := mv) (h := ?_)
    refine tk 1 (hy := nck) (h := ?_)
    refine tk 2 (hy := (by first | exact fa | exact faE)) (h := ?_)
    refine tk 3 (hy := (by first | exact ld | exact ldE)) (h := ?_)
    refine tk 4 (hy := (by first | exact ldA | exact ldEA)) (h := ?_)
    refine tk 5 (hy := lkO (b := q.mb) (c := z.x.c) (k := mK z.k (s / 2 ^ (z.k + 1))) (hm := hz2.m) (hs := hz2.s) (hv := hlv) (hb := hls)) (h := ?_)
    refine tk 6 (hy := mv) (h := ?_)
    refine tk 7 (hy := ex) (h := ?_)
    refine tk 8 (hy := ex) (h := ?_)
    refine tk 9 (hy := asg) (h := ?_)
    refine tk 10 (hy := asg) (h := ?_)
    refine dn (h := ?_)
    refine q_seq (h := ?_)
    refine sq (h := ?_)
    refine rg (h := ?_)
    refine wy mv ?_
    refine wy mv ?_
    apply brAnd 10 29 39 (by exact rfl)
    · intro hb1
      have ho2 := hlk hb1
      refine un (h := ?_)
      refine wy mv ?_
      refine un (h := ?_)
      refine wy mv ?_
      refine un (h := ?_)
      refine wy nck ?_
      refine un (h := ?_)
      refine wy (by first | exact fa | exact faE) ?_
      refine un (h := ?_)
      refine wy (by first | exact ld | exact ldE) ?_
      refine un (h := ?_)
      refine wy mv ?_
      refine un (h := ?_)
      refine wy (ix (A := q.pA) (m := sl.length) (hb := by omega)) ?_
      refine un (h := ?_)
      refine wy (ldE (A := q.pA) (hk := hxe)) ?_
      refine un (h := ?_)
      refine wy ((Yd.fl (neq) (by rw [decide_eq_true ho2]; rfl))) ?_
      refine wy (by first | exact pkT | exact pkF) ?_
      exact mg (by repeat (first | exact trivial | refine ⟨rfl, ?_⟩ | refine ⟨by rw [hb1]; rfl, ?_⟩)) slz_
    · intro hb1
      repeat (first | refine un (h := ?_) | refine sk (h := ?_) | refine WL.y (hy := pkF) (h := ?_) | refine WL.y (hy := pkT) (h := ?_))
      exact mg (by repeat (first | exact trivial | refine ⟨rfl, ?_⟩ | refine ⟨by rw [hb1]; rfl, ?_⟩)) slz_
    refine nl (h := ?_)
    refine q_seq (h := ?_)
    refine cd (by exact rfl) (fun h2 => ?_) (fun h2 => ?_)
    · skip
      exfalso
      have h9 := h2
      rw [Bool.and_false] at h9
      cases h9
    · skip
      refine skp (h := ?_)
      refine q_seq (h := ?_)
      refine rgD (by kernel_rfl) [(1000000, .blk q.b 97 (dwC t sl.length q)), (1000000, .own q.pA q.pc 3 1 sl.length (enI sl)), (1000000, .blk b0 93 [.int .i64 z.k, .int .i64 (s / 2 ^ (z.k + 1) : Nat)])] (by repeat (first | exact HS.nil | (apply HS.keep; (repeat (first | exact At.here | apply At.there))) | (apply HS.ro; (repeat (first | exact Rds.ro | exact Rds.own | apply Rds.there))))) (h := ?_)
      refine tk 0 (hy := mv) (h := ?_)
      refine tk 1 (hy := nck) (h := ?_)
      refine tk 2 (hy := (by first | exact fa | exact faE)) (h := ?_)
      refine tk 3 (hy := (by first | exact ld | exact ldE)) (h := ?_)
      refine tk 4 (hy := (by first | exact ldA | exact ldEA)) (h := ?_)
      refine tk 5 (hy := mv) (h := ?_)
      refine tk 6 (hy := nck) (h := ?_)
      refine tk 7 (hy := (by first | exact fa | exact faE)) (h := ?_)
      refine tk 8 (hy := (by first | exact ld | exact ldE)) (h := ?_)
      refine tk 9 (hy := mv) (h := ?_)
      refine tk 10 (hy := ix (A := q.pA) (m := sl.length) (hb := by omega)) (h := ?_)
      refine tk 11 (hy := ldE (A := q.pA) (hk := hxe)) (h := ?_)
      refine one 12 (h := ?_)
      refine mupS (b := q.mb) (c := z.x.c) (k := mK z.k (s / 2 ^ (z.k + 1))) (hm := hz2.m) (hs := hz2.s) (hst0 := hz2.t) (h := fun es2 c2 hm2 ht2 => ?_)
      have hput := hz2.put (hM z.k hkn) hs2 hm2 ht2
      refine nx (h := ?_)
      refine dn (h := ?_)
      refine q_blk_norm (h := ?_)
      refine q_seq (h := ?_)
      refine rg (h := ?_)
      refine wy addI ?_
      refine wy mv ?_
      refine nl (h := ?_)
      refine rn (x := z) ⟨z.k + 1, ⟨es2, c2, _⟩⟩ ⟨by dsimp only; omega, hput.1, fun r p h9 => hput.2.1 r p (hz3 r p h9), fun r hr => by
        by_cases e : r = z.k
        · subst e; exact hput.2.2
        · exact hput.2.1 _ _ (hz4 r (by dsimp only at hr; omega))⟩ (by dsimp only; omega) sbz_ slz_
  · skip
    have hkn : z.k = rd + 1 := by have := of_decide_eq_false h0; omega
    refine et (h := ?_)
    refine q_then_exit (h := ?_)
    refine q_then_exit (h := ?_)
    refine q_blk_hit (h := ?_)
    refine q_seq (h := ?_)
    refine sq (h := ?_)
    refine rg (h := ?_)
    refine wy asg ?_
    refine nl (h := ?_)
    refine q_seq (h := ?_)
    refine rtn (h := ?_)
    refine q_ret (hR := ?_)
    exact fun w hS => ⟨z.x, ⟨hz2, hz3, fun r hr => hz4 r (by omega)⟩, rfl, hS.sub slz_⟩
end Go.Proofs.YtmlhnajgiopfgaaGreat

namespace Go.Proofs.YtmlhnajgiopfgaaGreat
open Go Go.RowKit

structure WonA (M : MM) (x : WnX) : Prop where
  s : WonS M x
  a : ∀ r p, M r p ≠ -2 → WonH M x r p
theorem WonA.look {M : MM} {x : WnX} (h : WonA M x) (r p : Nat) : ∃ (lv : Int) (ls : Bool), (lkp x.kv (mK r p)).getD (.int .i64 0) = .int .i64 lv ∧ (lkp x.kv (mK r p)).isSome = ls ∧ (ls = true → lv = M r p ∧ M r p ≠ -2) ∧ (ls = false → M r p = -2) := by
  rcases h.s.look r p with h9 | h9
  · refine ⟨0, false, by rw [h9]; rfl, by rw [h9]; rfl, fun h8 => (by cases h8), fun _ => ?_⟩
    refine Decidable.byContradiction fun h7 => ?_
    have := h.a r p h7
    unfold WonH at this
    rw [h9] at this; cases this
  · exact ⟨M r p, true, by rw [h9.1]; rfl, by rw [h9.1]; rfl, fun _ => ⟨rfl, h9.2⟩, fun h8 => (by cases h8)⟩
set_option maxRecDepth 100000 in
theorem T_br_side (t : Tre) (d : Dr) (q : DwX) (x : WnX) (hx : WonA d.M x) (r p s : Nat) (hr : r ≤ 5) (hp : p ≤ 40) (hs : s < 2) (hl : r = 0 → 2 * p + s < d.sl.length) (hn : d.sl.length ≤ 1000) :
    Tr Tryz.prog 60 [.pointer (some ⟨q.b, 0, none⟩), .agg #[.int .i64 r, .int .i64 p], .int .i64 s] (dwL t d.sl q x) (fun _ : Unit => True) (fun _ => .int .i64 (ofV d r p s)) (fun _ => dwL t d.sl q x) := by
  refine ⟨fun w0 w R hst => ?_⟩
  have e2 : (2 * (p : Int) + (s : Int)) = ((2 * p + s : Nat) : Int) := by push_cast; rfl
  obtain ⟨lv, ls, hlv, hls, hlt, hlf⟩ := hx.look (r - 1) (2 * p + s)
  have hkey : 0 < r → [Fl.i ((r : Int) - 1), .i (2 * (p : Int) + (s : Int))] = mK (r - 1) (2 * p + s) := fun h9 => by rw [mK, e2, show ((r - 1 : Nat) : Int) = (r : Int) - 1 by omega]
  refine en Tryz.func60 Tryz.ntmps60 hst (h := fun F => ?_)
  refine sq (h := ?_)
  refine rg (h := ?_)
  refine bxA (h := fun b0 => ?_)
  refine wy asg ?_
  refine nl (h := ?_)
  refine q_seq (h := ?_)
  refine sq (h := ?_)
  refine rg (h := ?_)
  refine wy (by first | exact fa | exact faE) ?_
  refine wy (by first | exact ld | exact ldE) ?_
  refine wy (mulI (hb := by omega)) ?_
  refine wy mv ?_
  refine wy (addI (hb := by omega)) ?_
  refine wy asg ?_
  refine nl (h := ?_)
  refine q_seq (h := ?_)
  refine sq (h := ?_)
  refine sq (h := ?_)
  refine rg (h := ?_)
  refine wy (by first | exact fa | exact faE) ?_
  refine wy (by first | exact ld | exact ldE) ?_
  refine wy eql ?_
  refine nl (h := ?_)
  refine q_seq (h := ?_)
  refine cd (by exact rfl) (fun h0 => ?_) (fun h0 => ?_)
  · skip
    have hr0 : r = 0 := by have := of_decide_eq_true h0; omega
    have hxe : (enI d.sl)[(2 * (p : Int) + (s : Int)).toNat]? = some [.int .i64 (d.sl.getD (2 * p + s) 0)] := by rw [e2, Int.toNat_natCast]; exact enI_at (at_getD (hl hr0))
    have hl0 := hl hr0
    refine sq (h := ?_)
    refine rg (h := ?_)
    refine wy mv ?_
    refine wy nck ?_
    refine wy (by first | exact fa | exact faE) ?_
    refine wy (by first | exact ld | exact ldE) ?_
    refine wy mv ?_
    refine wy (ix (A := q.pA) (m := d.sl.length) (hb := by omega)) ?_
    refine wy (ldE (A := q.pA) (hk := hxe)) ?_
    refine wy asg ?_
    refine nl (h := ?_)
    refine q_seq (h := ?_)
    refine rtn (h := ?_)
    refine q_then_ret (h := ?_)
    refine q_ret (hR := ?_)
    exact fun w hS => ⟨(), trivial, by unfold ofV; rw [if_pos hr0]; rfl, hS.sub slz_⟩
  · skip
    have hr0 : 0 < r := by have := of_decide_eq_false h0; omega
    have hk0 := hkey hr0
    refine skp (h := ?_)
    refine q_seq (h := ?_)
    refine sq (h := ?_)
    refine sq (h := ?_)
    refine rgD (by kernel_rfl) [(1000000, .blk q.b 97 (dwC t d.sl.length q)), (1000000, .obj q.mb (.map x.es x.c)), (1000000, .blk b0 93 [.int .i64 r, .int .i64 p])] (by repeat (first | exact HS.nil | (apply HS.keep; (repeat (first | exact At.here | apply At.there))) | (apply HS.ro; (repeat (first | exact Rds.ro | exact Rds.own | apply Rds.there))))) (h := ?_)
    refine tk 0 (hy := mv) (h := ?_)
    refine tk 1 (hy := nck) (h := ?_)
    refine tk 2 (hy := (by first | exact fa | exact faE)) (h := ?_)
    refine tk 3 (hy := (by first | exact ld | exact ldE)) (h := ?_)
    refine tk 4 (hy := (by first | exact fa | exact faE)) (h := ?_)
    refine tk 5 (hy := (by first | exact ld | exact ldE)) (h := ?_)
    refine tk 6 (hy := subI (hb := by omega)) (h := ?_)
    refine tk 7 (hy := mv) (h := ?_)
    refine tk 8 (hy := bd) (h := ?_)
    refine tk 9 (hy := lkO (b := q.mb) (c := x.c) (k := [Fl.i ((r : Int) - 1), .i (2 * (p : Int) + (s : Int))]) (v := .int .i64 lv) (s := ls) (hm := hx.s.m) (hs := hx.s.s) (hv := by rw [hk0]; exact hlv) (hb := by rw [hk0]; exact hls)) (h := ?_)
    refine tk 10 (hy := mv) (h := ?_)
    refine tk 11 (hy := ex) (h := ?_)
    refine tk 12 (hy := ex) (h := ?_)
    refine tk 13 (hy := asg) (h := ?_)
    refine tk 14 (hy := asg) (h := ?_)
    refine dn (h := ?_)
    refine q_seq (h := ?_)
    refine sq (h := ?_)
    refine rg (h := ?_)
    refine wy mv ?_
    refine nl (h := ?_)
    refine q_seq (h := ?_)
    refine cd (by exact rfl) (fun h1 => ?_) (fun h1 => ?_)
    · skip
      have hv9 := (hlt h1).1
      refine sq (h := ?_)
      refine rg (h := ?_)
      refine wy mv ?_
      refine wy asg ?_
      refine nl (h := ?_)
      refine q_seq (h := ?_)
      refine rtn (h := ?_)
      refine q_then_ret (h := ?_)
      refine q_ret (hR := ?_)
      exact fun w hS => ⟨(), trivial, by unfold ofV; rw [if_neg (by omega), ← hv9]; rfl, hS.sub slz_⟩
    · skip
      have hv9 := hlf h1
      refine skp (h := ?_)
      refine q_seq (h := ?_)
      refine sq (h := ?_)
      refine rg (h := ?_)
      refine wy asg ?_
      refine nl (h := ?_)
      refine q_seq (h := ?_)
      refine rtn (h := ?_)
      refine q_ret (hR := ?_)
      exact fun w hS => ⟨(), trivial, by unfold ofV; rw [if_neg (by omega), hv9]; rfl, hS.sub slz_⟩

abbrev slK (s : Sl) : List Fl := [.i s.kind, .i s.round, .i s.place, .i s.player, .i s.old]
theorem slK_inj {x y : Sl} (h : slK x = slK y) : x = y := by
  cases x; cases y
  simpa only [slK, List.cons.injEq, Fl.i.injEq, and_true, Sl.mk.injEq] using h
structure LkS (rem : List Sl) (x : WnX) : Prop where
  m : MapIs x.es x.kv
  s : ∀ p ∈ x.kv, shapeOf p.1 = [false, false, false, false, false]
  t : Stm x.es x.c
  k : x.kv.map Prod.fst = rem.map slK
theorem LkS.todo {rem : List Sl} {x : WnX} (h : LkS rem x) : (∀ y ∈ x.es.toList.map kvOf, ∃ s ∈ rem, y.1 = s.val) ∧ ∀ s ∈ rem, ∃ y ∈ x.es.toList.map kvOf, y.1 = s.val := by
  have hm : x.es.toList.map kvOf = x.kv.map fun p => (Value.agg (fv p.1).toArray, p.2) := h.m
  rw [hm]
  constructor
  · intro y hy
    obtain ⟨p, hp, rfl⟩ := List.mem_map.1 hy
    have : p.1 ∈ rem.map slK := h.k ▸ List.mem_map.2 ⟨p, hp, rfl⟩
    obtain ⟨s, hs, e⟩ := List.mem_map.1 this
    exact ⟨s, hs, by show Value.agg (fv p.1).toArray = _; rw [← e]; rfl⟩
  · intro s hs
    have : slK s ∈ x.kv.map Prod.fst := h.k ▸ List.mem_map.2 ⟨s, hs, rfl⟩
    obtain ⟨p, hp, e⟩ := List.mem_map.1 this
    exact ⟨_, List.mem_map.2 ⟨p, hp, rfl⟩, by show Value.agg (fv p.1).toArray = _; rw [e]; rfl⟩
theorem sl_val {x y : Sl} (h : x.val = y.val) : x = y := by
  have := congrArg (fun v => match v with | Value.agg a => a.toList | _ => []) h
  cases x; cases y
  simpa using this
def slZ : Sl := ⟨0, 0, 0, 0, 0⟩
def NextO (rem : List Sl) (i now : Int) : Option Sl → Prop
  | none => ∀ s ∈ rem, ¬ (s.place = i ∧ s.old = now)
  | some s => s ∈ rem ∧ s.place = i ∧ s.old = now
structure NxZ where
  (td : List KV) (o : Option KV)
theorem todo_step {rem : List Sl} {td td' : List KV} {o : Option KV} {i now : Int} (h1 : ∀ y ∈ td, ∃ s ∈ rem, y.1 = s.val) (h2 : ∀ s ∈ rem, (∃ y ∈ td, y.1 = s.val) ∨ ¬ (s.place = i ∧ s.old = now)) (h : NxO td o td') :
    (o = none ∧ ∀ s ∈ rem, ¬ (s.place = i ∧ s.old = now)) ∨ ∃ s u, o = some (s.val, u) ∧ s ∈ rem ∧ td'.length < td.length ∧ (∀ y ∈ td', ∃ s ∈ rem, y.1 = s.val) ∧ ∀ z ∈ rem, (∃ y ∈ td', y.1 = z.val) ∨ z = s ∨ ¬ (z.place = i ∧ z.old = now) := by
  cases o with
  | none =>
    refine .inl ⟨rfl, fun s hs => ?_⟩
    rcases h2 s hs with ⟨y, hy, -⟩ | h3
    · rw [h.1] at hy; cases hy
    · exact h3
  | some kv =>
    have hp : td.Perm (kv :: td') := h
    obtain ⟨s, hs, he⟩ := h1 kv (hp.mem_iff.2 List.mem_cons_self)
    refine .inr ⟨s, kv.2, by rw [← he], hs, by rw [hp.length_eq, List.length_cons]; omega, fun y hy => h1 y (hp.mem_iff.2 (List.mem_cons_of_mem _ hy)), fun z hz => ?_⟩
    rcases h2 z hz with ⟨y, hy, e⟩ | h3
    · rcases List.mem_cons.1 (hp.mem_iff.1 hy) with rfl | hy
      · exact .inr (.inl (sl_val (e.symm.trans he)))
      · exact .inl ⟨y, hy, e⟩
    · exact .inr (.inr h3)
set_option maxRecDepth 100000 in
theorem T_br_next (t : Tre) (pl : List Int) (q : DwX) (rem : List Sl) (lb : Nat) (x : WnX) (hx : LkS rem x) (i : Nat) (n : Nat) (hl : pl.length = n) (hi : i < n) (hn : n ≤ 1000) :
    Tr Tryz.prog 99 [.pointer (some ⟨q.b, 0, none⟩), .map (some lb), .int .i64 i] [.obj lb (.map x.es x.c), .blk q.b 97 (dwC t n q), .own q.pA q.pc 3 1 n (enI pl)] (NextO rem i (pl.getD i 0)) (fun o => .tuple #[(o.getD slZ).val, .bool o.isSome]) (fun _ => [.obj lb (.map x.es x.c), .blk q.b 97 (dwC t n q), .own q.pA q.pc 3 1 n (enI pl)]) := by
  refine ⟨fun w0 w R hst => ?_⟩
  have hxe := enI_at (at_getD (l := pl) (i := i) (by omega))
  refine en Tryz.func99 Tryz.ntmps99 hst (h := fun F => ?_)
  refine sq (h := ?_)
  refine rg (h := ?_)
  refine al (h := fun b0 => ?_)
  refine wy asg ?_
  refine nl (h := ?_)
  refine q_seq (h := ?_)
  refine sq (h := ?_)
  refine sq (h := ?_)
  refine rg (h := ?_)
  refine wy mv ?_
  refine rngO (es := x.es) (c := x.c) (h := fun r1 => ?_)
  refine nl (h := ?_)
  refine q_seq (h := ?_)
  refine bk (h := ?_)
  refine lp (X := NxZ) (I := fun z => (∀ y ∈ z.td, ∃ s ∈ rem, y.1 = s.val) ∧ ∀ s ∈ rem, (∃ y ∈ z.td, y.1 = s.val) ∨ ¬ (s.place = (i : Int) ∧ s.old = pl.getD i 0)) (le := fun z => [(0, .pointer (some ⟨q.b, 0, none⟩)), (2, .int .i64 i), (6, .pointer (some ⟨b0, 0, none⟩)), (10, .pointer (some ⟨r1, 0, none⟩))]) (Le := fun z => itE r1 lb x.es x.c z.td z.o :: .obj lb (.map x.es x.c) :: .blk q.b 97 (dwC t n q) :: .own q.pA q.pc 3 1 n (enI pl) :: .blk b0 54 slZ.cells :: R) (μ := fun z => z.td.length) ⟨_, none⟩ ⟨hx.todo.1, fun s hs => .inl (hx.todo.2 s hs)⟩ sbz_ slz_ (fun z hz => ?_)
  obtain ⟨hz1, hz2⟩ := hz
  refine sq (h := ?_)
  refine rg (h := ?_)
  refine nxtO (hs := hx.t) (h := fun o2 tk2 ho2 => ?_)
  refine wy exN ?_
  refine nl (h := ?_)
  refine q_seq (h := ?_)
  refine sq (h := ?_)
  refine cd (by exact rfl) (fun h0 => ?_) (fun h0 => ?_)
  · skip
    rcases todo_step hz1 hz2 ho2 with ⟨rfl, hno⟩ | ⟨s, u, rfl, hsr, hlt, hy1, hy2⟩
    · cases h0
    refine skp (h := ?_)
    refine q_seq (h := ?_)
    refine bk (h := ?_)
    refine sq (h := ?_)
    refine rg (h := ?_)
    refine wy (entO (hs := hx.t)) ?_
    refine wy ex ?_
    refine al (h := fun b1 => ?_)
    first | refine stA (h := ?_) | refine stEA (h := ?_)
    refine nl (h := ?_)
    refine q_seq (h := ?_)
    refine sq (h := ?_)
    refine rgD (by kernel_rfl) [(1000000, .blk q.b 97 (dwC t n q)), (1000000, .own q.pA q.pc 3 1 n (enI pl)), (1000000, .blk b1 54 s.cells)] (by repeat (first | exact HS.nil | (apply HS.keep; (repeat (first | exact At.here | apply At.there))) | (apply HS.ro; (repeat (first | exact Rds.ro | exact Rds.own | apply Rds.there))))) (h := ?_)
    refine tk 0 (hy := (by first | exact fa | exact faE)) (h := ?_)
    refine tk 1 (hy := (by first | exact ld | exact ldE)) (h := ?_)
    refine tk 2 (hy := mv) (h := ?_)
    refine tk 3 (hy := eql) (h := ?_)
    refine tk 4 (hy := mv) (h := ?_)
    refine brH (g := 19) (by exact rfl) (fun hb1 => ?_) (fun hb1 => ?_)
    · skip
      have hpl : s.place = (i : Int) := of_decide_eq_true hb1
      refine tk 5 (hy := (by first | exact fa | exact faE)) (h := ?_)
      refine tk 6 (hy := (by first | exact ld | exact ldE)) (h := ?_)
      refine tk 7 (hy := mv) (h := ?_)
      refine tk 8 (hy := nck) (h := ?_)
      refine tk 9 (hy := (by first | exact fa | exact faE)) (h := ?_)
      refine tk 10 (hy := (by first | exact ld | exact ldE)) (h := ?_)
      refine tk 11 (hy := mv) (h := ?_)
      refine tk 12 (hy := ix (A := q.pA) (m := n) (hb := by omega)) (h := ?_)
      refine tk 13 (hy := ldE (A := q.pA) (hk := hxe)) (h := ?_)
      refine tk 14 (hy := eql) (h := ?_)
      refine tk 15 (hy := (by first | exact pkT | exact pkF)) (h := ?_)
      refine dn (h := ?_)
      refine q_seq (h := ?_)
      refine cd (by exact rfl) (fun h2 => ?_) (fun h2 => ?_)
      · skip
        have hod : s.old = pl.getD i 0 := of_decide_eq_true (by assumption)
        refine sq (h := ?_)
        refine rg (h := ?_)
        refine wy (by first | exact ldA | exact ldEA) ?_
        first | refine stA (h := ?_) | refine stEA (h := ?_)
        refine wy asg ?_
        refine nl (h := ?_)
        refine q_seq (h := ?_)
        refine rtn (h := ?_)
        refine q_blk_ret (h := ?_)
        refine q_then_ret (h := ?_)
        refine q_blk_ret (h := ?_)
        refine q_then_ret (h := ?_)
        refine q_ret (hR := ?_)
        exact fun w hS => ⟨some s, ⟨hsr, hpl, hod⟩, rfl, hS.sub slz_⟩
      · skip
        have hnc : ¬ (s.place = (i : Int) ∧ s.old = pl.getD i 0) := by first | assumption | exact fun h9 => of_decide_eq_false (by assumption) h9.2
        refine skp (h := ?_)
        refine q_blk_norm (h := ?_)
        refine rn (x := z) ⟨tk2, some (s.val, u)⟩ ⟨hy1, fun z2 h9 => (hy2 z2 h9).imp id fun h8 => h8.elim (fun e => by rw [e]; exact hnc) id⟩ hlt sbz_ slz_
    · skip
      have hnc : ¬ (s.place = (i : Int) ∧ s.old = pl.getD i 0) := fun h9 => of_decide_eq_false hb1 h9.1
      refine tkS 5 (h := ?_)
      refine tkS 6 (h := ?_)
      refine tkS 7 (h := ?_)
      refine tkS 8 (h := ?_)
      refine tkS 9 (h := ?_)
      refine tkS 10 (h := ?_)
      refine tkS 11 (h := ?_)
      refine tkS 12 (h := ?_)
      refine tkS 13 (h := ?_)
      refine tkS 14 (h := ?_)
      refine tk 15 (hy := (by first | exact pkT | exact pkF)) (h := ?_)
      refine dn (h := ?_)
      refine q_seq (h := ?_)
      refine cdF (h := ?_)
      have hnc : ¬ (s.place = (i : Int) ∧ s.old = pl.getD i 0) := by first | assumption | exact fun h9 => of_decide_eq_false (by assumption) h9.2
      refine skp (h := ?_)
      refine q_blk_norm (h := ?_)
      refine rn (x := z) ⟨tk2, some (s.val, u)⟩ ⟨hy1, fun z2 h9 => (hy2 z2 h9).imp id fun h8 => h8.elim (fun e => by rw [e]; exact hnc) id⟩ hlt sbz_ slz_
  · skip
    rcases todo_step hz1 hz2 ho2 with ⟨rfl, hno⟩ | ⟨s, u, rfl, hsr, hlt, hy1, hy2⟩
    rotate_left
    · cases h0
    refine et (h := ?_)
    refine q_then_exit (h := ?_)
    refine q_then_exit (h := ?_)
    refine q_blk_hit (h := ?_)
    refine q_seq (h := ?_)
    refine sq (h := ?_)
    refine rg (h := ?_)
    refine wy bd ?_
    first | refine stA (h := ?_) | refine stEA (h := ?_)
    refine wy asg ?_
    refine nl (h := ?_)
    refine q_seq (h := ?_)
    refine rtn (h := ?_)
    refine q_ret (hR := ?_)
    exact fun w hS => ⟨none, hno, rfl, hS.sub slz_⟩
end Go.Proofs.YtmlhnajgiopfgaaGreat
