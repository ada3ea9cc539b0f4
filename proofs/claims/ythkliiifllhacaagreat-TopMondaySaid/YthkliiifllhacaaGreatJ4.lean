/- The texts of the walk, part 4. -/
import Derived.Test.YthkliiifllhacaaGreatJ3
namespace Go.Proofs.YthkliiifllhacaaGreat
open Go Go.RowKit

structure IZD where
 (k : Nat)
theorem C_dr_within (n lo hi : Int) (w : World) : C0 Tryz.prog 112 [.int .i64 n, .int .i64 lo, .int .i64 hi] w (.bool (win n lo hi)) := by
 refine ⟨en Tryz.func112 Tryz.ntmps112 (St.init w) (h := fun F => ?_)⟩
 refine sr ?_
 refine ww ?_
 refine nr ?_
 iterate 4 refine ww ?_
 apply brAnd 4 10 14 (by exact rfl)
 ·
  intro hb0
  iterate 3 refine uw ?_
  refine ww ?_
  exact mg (by repeat (first | exact trivial | refine ⟨rfl, ?_⟩ | refine ⟨by rw [hb0]; rfl, ?_⟩)) slz_
 ·
  intro hb0
  repeat (first | refine uz ?_ | refine kz ?_ | refine wz ?_)
  exact mg (by repeat (first | exact trivial | refine ⟨rfl, ?_⟩ | refine ⟨by rw [hb0]; rfl, ?_⟩)) slz_
 refine ww ?_
 refine nq ?_
 refine rtn ?_
 refine q_ret (hR := ?_)
 exact fun w hS => ⟨rfl, hS.sub slz_⟩
theorem C_IndexPs {A : Option Addr} {n c : Nat} {es : List (List Value)} {g : FuncId} (hg : FnOk Tryz.prog g) (fi cap : List Value) (Lp : List Ent) (p : Nat → Bool) (hn : n ≤ 9223372036854775807)
  (hp : ∀ k cs, es[k]? = some cs → Tr Tryz.prog g (fi ++ [.agg cs.toArray] ++ cap) (.ro A 3 n es :: Lp) (fun _ : Unit => True) (fun _ => .bool (p k)) (fun _ => .ro A 3 n es :: Lp)) :
  Tr Tryz.prog 178 [.slice A n c, .func (.func g) fi.toArray cap.toArray] (.ro A 3 n es :: Lp) (Fst p n) (fun j => .int .i64 j) (fun _ => .ro A 3 n es :: Lp) := by
 refine ⟨fun w0 w R hst => ?_⟩
 have hlen : es.length = n := (hst.ok (.ro A 3 n es) (by simp)).len
 refine en Tryz.func178 Tryz.ntmps178 hst (h := fun F => ?_)
 refine sr ?_
 refine ww ?_
 refine nq ?_
 refine sq ?_
 refine sr ?_
 iterate 3 refine ww ?_
 refine nq ?_
 refine bk ?_
 refine lp (X := Nat) (I := fun k => k ≤ n ∧ ∀ i, i < k → p i = false) (le := fun k => [(0, .slice A n c), (1, .func (.func g) fi.toArray cap.toArray), (7, .int .i64 n), (8, .int .i64 k)]) (Le := fun _ => .ro A 3 n es :: (Lp ++ R)) (μ := fun k => n - k) 0 ⟨by omega, fun i hi => by omega⟩ sbz_ (SubL.refl _) (fun k hk => ?_)
 obtain ⟨hk, hall⟩ := hk
 refine sr ?_
 refine ww ?_
 refine nq ?_
 refine sq ?_
 refine czz (fun h0 => ?_) fun h0 => ?_
 ·
  have hkn : k < n := by simp only [decide_eq_true_eq] at h0; omega
  have hes : es[k]? = some es[k] := List.getElem?_eq_getElem (by omega)
  refine skp ?_
  refine q_seq ?_
  refine sq ?_
  refine bk ?_
  refine sr ?_
  iterate 2 refine ww ?_
  refine nr ?_
  iterate 3 refine ww ?_
  refine wy ix ?_
  refine wy (ldEW (k := k) (cs := es[k]) (hk := hes)) ?_
  refine clfT hg (fi := fi) (cap := cap) (by exact rfl) (by repeat (first | exact Evs.nil | (apply Evs.cons; exact rfl))) (hp k _ hes) rfl (Spl.cons .here (Spl.app _ _)) (h := fun _ _ => ?_)
  refine nq ?_
  refine czz (fun h1 => ?_) fun h1 => ?_
  ·
   refine sr ?_
   iterate 2 refine ww ?_
   refine nq ?_
   refine rtn ?_
   refine q_blk_ret ?_
   iterate 2 refine q_then_ret ?_
   refine q_blk_ret ?_
   refine q_then_ret ?_
   refine q_ret (hR := ?_)
   exact fun w hS => ⟨_, .inl ⟨k, hkn, rfl, by assumption, hall⟩, rfl, hS⟩
  ·
   refine skp ?_
   refine q_blk_norm ?_
   refine q_seq ?_
   refine rg ?_
   iterate 2 refine ww ?_
   refine nl ?_
   refine rn (k + 1) ⟨by omega, fun i hi => ?_⟩ (by omega) sbz_ (SubL.refl _)
   rcases Nat.lt_succ_iff_lt_or_eq.1 hi with h | rfl
   ·
    exact hall i h
   ·
    assumption
 ·
  have hkn : k = n := by simp only [decide_eq_false_iff_not] at h0; omega
  refine et ?_
  iterate 2 refine q_then_exit ?_
  refine q_blk_hit ?_
  refine q_seq ?_
  refine sr ?_
  refine ww ?_
  refine nq ?_
  refine rtn ?_
  refine q_ret (hR := ?_)
  exact fun w hS => ⟨_, .inr ⟨rfl, by subst hkn; exact hall⟩, rfl, hS⟩
theorem C_ContainsPs {A : Option Addr} {n c : Nat} {es : List (List Value)} {g : FuncId} (hg : FnOk Tryz.prog g) (fi cap : List Value) (Lp : List Ent) (p : Nat → Bool) (hn : n ≤ 9223372036854775807)
  (hp : ∀ k cs, es[k]? = some cs → Tr Tryz.prog g (fi ++ [.agg cs.toArray] ++ cap) (.ro A 3 n es :: Lp) (fun _ : Unit => True) (fun _ => .bool (p k)) (fun _ => .ro A 3 n es :: Lp)) :
  Tr Tryz.prog 113 [.slice A n c, .func (.func g) fi.toArray cap.toArray] (.ro A 3 n es :: Lp) (fun _ : Unit => True) (fun _ => .bool ((List.range n).any p)) (fun _ => .ro A 3 n es :: Lp) := by
 refine ⟨fun w0 w R hst => ?_⟩
 refine en Tryz.func113 Tryz.ntmps113 hst (h := fun F => ?_)
 refine sr ?_
 refine ww ?_
 refine nr ?_
 iterate 2 refine ww ?_
 refine clT (hc := C_IndexPs hg fi cap Lp p hn hp) (hs := Spl.cons .here (Spl.app _ _)) (h := fun x0 hx0 => ?_)
 iterate 2 refine ww ?_
 refine nq ?_
 refine rtn ?_
 refine q_ret (hR := ?_)
 exact fun w hS => ⟨(), trivial, by simp only [resV, hx0.any], hS⟩
theorem T_IndexInt {E : Ent} {A : Option Addr} {n c : Nat} {ws : List Int} (hE : ∀ w, E.ok w → Rd w A 1 n (enI ws)) {g : FuncId} (hg : FnOk Tryz.prog g) (fi cap : List Value) (Lp : List Ent) (p : Int → Bool) (hn : n ≤ 9223372036854775807) (hlen : ws.length = n)
  (hp : ∀ x ∈ ws, Tr Tryz.prog g (fi ++ [.int .i64 x] ++ cap) Lp (fun _ : Unit => True) (fun _ => .bool (p x)) (fun _ => Lp)) :
  Tr Tryz.prog 179 [.slice A n c, .func (.func g) fi.toArray cap.toArray] (E :: Lp) (Fst (pAt ws p) n) (fun j => .int .i64 j) (fun _ => E :: Lp) := by
 refine ⟨fun w0 w R hst => ?_⟩
 refine en Tryz.func179 Tryz.ntmps179 hst (h := fun F => ?_)
 refine sr ?_
 refine ww ?_
 refine nq ?_
 refine sq ?_
 refine sr ?_
 iterate 3 refine ww ?_
 refine nq ?_
 refine bk ?_
 refine lp (X := Nat) (I := fun k => k ≤ n ∧ ∀ i, i < k → pAt ws p i = false) (le := fun k => [(0, .slice A n c), (1, .func (.func g) fi.toArray cap.toArray), (7, .int .i64 n), (8, .int .i64 k)]) (Le := fun _ => E :: (Lp ++ R)) (μ := fun k => n - k) 0 ⟨by omega, fun i hi => by omega⟩ sbz_ (SubL.refl _) (fun k hk => ?_)
 obtain ⟨hk, hall⟩ := hk
 refine sr ?_
 refine ww ?_
 refine nq ?_
 refine sq ?_
 refine czz (fun h0 => ?_) fun h0 => ?_
 ·
  have hkn : k < n := by simp only [decide_eq_true_eq] at h0; omega
  obtain ⟨x, hx⟩ : ∃ x, ws[k]? = some x := ⟨_, List.getElem?_eq_getElem (by omega)⟩
  have hxe := enI_at hx
  refine skp ?_
  refine q_seq ?_
  refine sq ?_
  refine bk ?_
  refine sr ?_
  iterate 2 refine ww ?_
  refine nr ?_
  iterate 3 refine ww ?_
  refine wy (ix (A := A) (m := n) (hr := Rds.any hE)) ?_
  refine wy (ldE (A := A) (hr := Rds.any hE) (hk := hxe)) ?_
  refine clfT hg (fi := fi) (cap := cap) (by exact rfl) (by repeat (first | exact Evs.nil | (apply Evs.cons; exact rfl))) (hp x (List.mem_of_getElem? hx)) rfl (Spl.there (Spl.app _ _)) (h := fun _ _ => ?_)
  refine WL.subL (SubL.cons (At.app _ _) (SubL.refl _)) ?_
  refine nq ?_
  refine czz (fun h1 => ?_) fun h1 => ?_
  ·
   refine sr ?_
   iterate 2 refine ww ?_
   refine nq ?_
   refine rtn ?_
   refine q_blk_ret ?_
   iterate 2 refine q_then_ret ?_
   refine q_blk_ret ?_
   refine q_then_ret ?_
   refine q_ret (hR := ?_)
   exact fun w hS => ⟨_, .inl ⟨k, hkn, rfl, by rw [pAt_eq hx]; assumption, hall⟩, rfl, hS⟩
  ·
   refine skp ?_
   refine q_blk_norm ?_
   refine q_seq ?_
   refine rg ?_
   iterate 2 refine ww ?_
   refine nl ?_
   refine rn (k + 1) ⟨by omega, fun i hi => ?_⟩ (by omega) sbz_ (SubL.refl _)
   rcases Nat.lt_succ_iff_lt_or_eq.1 hi with h | rfl
   ·
    exact hall i h
   ·
    rw [pAt_eq hx]; assumption
 ·
  have hkn : k = n := by simp only [decide_eq_false_iff_not] at h0; omega
  refine et ?_
  iterate 2 refine q_then_exit ?_
  refine q_blk_hit ?_
  refine q_seq ?_
  refine sr ?_
  refine ww ?_
  refine nq ?_
  refine rtn ?_
  refine q_ret (hR := ?_)
  exact fun w hS => ⟨_, .inr ⟨rfl, by subst hkn; exact hall⟩, rfl, hS⟩

theorem T_ContainsInt {E : Ent} {A : Option Addr} {n c : Nat} {ws : List Int} (hE : ∀ w, E.ok w → Rd w A 1 n (enI ws)) {g : FuncId} (hg : FnOk Tryz.prog g) (fi cap : List Value) (Lp : List Ent) (p : Int → Bool) (hn : n ≤ 9223372036854775807) (hlen : ws.length = n)
  (hp : ∀ x ∈ ws, Tr Tryz.prog g (fi ++ [.int .i64 x] ++ cap) Lp (fun _ : Unit => True) (fun _ => .bool (p x)) (fun _ => Lp)) :
  Tr Tryz.prog 115 [.slice A n c, .func (.func g) fi.toArray cap.toArray] (E :: Lp) (fun _ : Unit => True) (fun _ => .bool ((List.range n).any (pAt ws p))) (fun _ => E :: Lp) := by
 refine ⟨fun w0 w R hst => ?_⟩
 refine en Tryz.func115 Tryz.ntmps115 hst (h := fun F => ?_)
 refine sr ?_
 refine ww ?_
 refine nr ?_
 iterate 2 refine ww ?_
 refine clT (hc := T_IndexInt (c := c) hE hg fi cap Lp p hn hlen hp) (hs := Spl.cons .here (Spl.app _ _)) (h := fun x0 hx0 => ?_)
 iterate 2 refine ww ?_
 refine nq ?_
 refine rtn ?_
 refine q_ret (hR := ?_)
 exact fun w hS => ⟨(), trivial, by simp only [resV, hx0.any], hS⟩
theorem C_slices_Index (xs : List Int) (y : Int) (A : Option Addr) (n c : Nat) (w : World) (h : Rd w A 1 n (enI xs)) (hn : n ≤ 9223372036854775807) :
  CR Tryz.prog 79 [.slice A n c, .int .i64 y] w (Fst (pAt xs fun x => decide (y = x)) n) (fun j => .int .i64 j) (fun _ => []) := by
 have hlen : xs.length = n := by have := h.len; rwa [enI_len] at this
 refine ⟨en Tryz.func79 Tryz.ntmps79 ((St.init w).share (e := .ro A 1 n (enI xs)) h rfl rfl rfl) (h := fun F => ?_)⟩
 refine sr ?_
 refine ww ?_
 refine nq ?_
 refine sq ?_
 refine sr ?_
 iterate 3 refine ww ?_
 refine nq ?_
 refine bk ?_
 refine lp (X := Nat) (I := fun k => k ≤ n ∧ ∀ i, i < k → pAt xs (fun x => decide (y = x)) i = false) (le := fun k => [(0, .slice A n c), (1, .int .i64 y), (7, .int .i64 n), (8, .int .i64 k)]) (Le := fun _ => [.ro A 1 n (enI xs)]) (μ := fun k => n - k) 0 ⟨by omega, fun i hi => by omega⟩ sbz_ slz_ (fun k hk => ?_)
 obtain ⟨hk, hall⟩ := hk
 refine sr ?_
 refine ww ?_
 refine nq ?_
 refine sq ?_
 refine czz (fun h0 => ?_) fun h0 => ?_
 ·
  have hkn : k < n := by simp only [decide_eq_true_eq] at h0; omega
  obtain ⟨x, hx⟩ : ∃ x, xs[k]? = some x := ⟨_, List.getElem?_eq_getElem (by omega)⟩
  have hxe := enI_at hx
  refine skp ?_
  refine q_seq ?_
  refine sq ?_
  refine bk ?_
  refine sr ?_
  iterate 2 refine ww ?_
  refine nr ?_
  iterate 3 refine ww ?_
  refine wy ix ?_
  refine wy (ldE (hk := hxe)) ?_
  refine ww ?_
  refine nq ?_
  refine czz (fun h1 => ?_) fun h1 => ?_
  ·
   have hpk : pAt xs (fun x => decide (y = x)) k = true := by rw [pAt_eq hx]; exact h1
   refine sr ?_
   iterate 2 refine ww ?_
   refine nq ?_
   refine rtn ?_
   refine q_blk_ret ?_
   iterate 2 refine q_then_ret ?_
   refine q_blk_ret ?_
   refine q_then_ret ?_
   refine q_ret (hR := ?_)
   exact fun w hS => ⟨_, .inl ⟨k, hkn, rfl, hpk, hall⟩, rfl, hS.sub slz_⟩
  ·
   have hpk : pAt xs (fun x => decide (y = x)) k = false := by rw [pAt_eq hx]; exact h1
   refine skp ?_
   refine q_blk_norm ?_
   refine q_seq ?_
   refine rg ?_
   iterate 2 refine ww ?_
   refine nl ?_
   refine rn (k + 1) ⟨by omega, fun i hi => ?_⟩ (by omega) sbz_ slz_
   rcases Nat.lt_succ_iff_lt_or_eq.1 hi with h | rfl
   ·
    exact hall i h
   ·
    exact hpk
 ·
  have hkn : k = n := by simp only [decide_eq_false_iff_not] at h0; omega
  refine et ?_
  iterate 2 refine q_then_exit ?_
  refine q_blk_hit ?_
  refine q_seq ?_
  refine sr ?_
  refine ww ?_
  refine nq ?_
  refine rtn ?_
  refine q_ret (hR := ?_)
  exact fun w hS => ⟨_, .inr ⟨rfl, by subst hkn; exact hall⟩, rfl, hS.sub slz_⟩

theorem C_slices_Contains (xs : List Int) (y : Int) (A : Option Addr) (n c : Nat) (w : World) (h : Rd w A 1 n (enI xs)) (hn : n ≤ 9223372036854775807) :
  C0 Tryz.prog 122 [.slice A n c, .int .i64 y] w (.bool (xs.any fun x => decide (y = x))) := by
 have hlen : xs.length = n := by have := h.len; rwa [enI_len] at this
 refine ⟨en Tryz.func122 Tryz.ntmps122 ((St.init w).share (e := .ro A 1 n (enI xs)) h rfl rfl rfl) (h := fun F => ?_)⟩
 refine sr ?_
 refine ww ?_
 refine nr ?_
 iterate 2 refine ww ?_
 refine cl (hc := fun w hS => C_slices_Index _ _ _ _ _ w (hS.get rdz_) (by omega)) (h := fun x0 hx0 => ?_)
 iterate 2 refine ww ?_
 refine nq ?_
 refine rtn ?_
 refine q_ret (hR := ?_)
 exact fun w hS => ⟨by rw [hx0.any, ← hlen, pAt_any]; rfl, hS.sub slz_⟩

theorem T_Check1 (x : Ps) (b : Nat) (y : Ps) : Tr Tryz.prog 114 [y.val, .pointer (some ⟨b, 0, none⟩)] [.blk b 103 x.enc] (fun _ : Unit => True) (fun _ => .bool (decide (y.player = x.player))) (fun _ => [.blk b 103 x.enc]) := by
 refine ⟨fun w0 w R hst => ?_⟩
 refine en Tryz.func114 Tryz.ntmps114 hst (h := fun F => ?_)
 refine sr ?_
 refine bxA (h := fun b0 => ?_)
 refine ww ?_
 refine nr ?_
 iterate 6 refine ww ?_
 refine nq ?_
 refine rtn ?_
 refine q_ret (hR := ?_)
 exact fun w hS => ⟨(), trivial, rfl, hS.sub slz_⟩
theorem C_Check2 (n : Int) (w : World) : C0 Tryz.prog 116 [.int .i64 n] w (.bool (!lotOk n)) := by
 refine ⟨en Tryz.func116 Tryz.ntmps116 (St.init w) (h := fun F => ?_)⟩
 refine sr ?_
 refine ww ?_
 refine nr ?_
 refine ww ?_
 refine cl0 (hc := fun w hS => C_dr_within _ _ _ w) (h := ?_)
 iterate 2 refine ww ?_
 refine nq ?_
 refine rtn ?_
 refine q_ret (hR := ?_)
 exact fun w hS => ⟨rfl, hS.sub slz_⟩
theorem head_not (p : Pl) : ((!decide (p.size = 4) && !decide (p.size = 8)) || !win p.ps.length 2 p.size || decide (p.size / 2 < p.size - p.ps.length) || !win p.seeds 0 (min (p.size / 2) p.ps.length) || decide ((10 : Int) < p.lots.length)) = !headOk p := by
 unfold headOk
 simp only [Bool.not_and, Bool.not_or]
 rw [← decide_not, ← decide_not (p := ((p.lots.length : Int) ≤ 10)), ← decide_not (p := p.size - _ ≤ _)]
 congr 1
 ·
  congr 1
  ·
   congr 1
   exact decide_eq_decide.2 (by omega)
 ·
  exact decide_eq_decide.2 (by omega)
theorem ps_not (seeds : Int) (i : Nat) (x : Ps) : (!win x.player 0 999 || !win x.nation 0 9 || (decide ((i : Int) < seeds) && x.qual)) = !psOk seeds i x := by
 unfold psOk
 cases win x.player 0 999 <;> cases win x.nation 0 9 <;> cases decide ((i : Int) < seeds) <;> cases x.qual <;> rfl
theorem chk_badD {p : Pl} (h : pOk p = false) : chkP p = 60 := by rw [chkP, h]; rfl
theorem lots_any (xs : List Int) : (List.range xs.length).any (pAt xs fun n => !lotOk n) = !xs.all lotOk := by
 rw [pAt_any, List.not_all_eq_any_not]
abbrev plL (p : Pl) (a : PA) (b : Nat) : List Ent := [.blk b 37 (p.cells a), .ro a.pA 3 p.ps.length (encPs p.ps), .ro a.lA 1 p.lots.length (enI p.lots)]
set_option maxHeartbeats 2000000 in
theorem C_dr_Check (p : Pl) (a : PA) (hz : -9223372036854775808 ≤ p.size ∧ p.size ≤ 9223372036854775807) (w : World) (h : PRd w p a) : C0 Tryz.prog 76 [p.val a] w (.int .i64 (chkP p)) := by
 obtain ⟨hp, hl, hpn, hln, hpc⟩ := h
 refine ⟨en Tryz.func76 Tryz.ntmps76 (((St.init w).share (e := .ro a.pA 3 p.ps.length (encPs p.ps)) hp rfl rfl rfl).share (e := .ro a.lA 1 p.lots.length (enI p.lots)) hl rfl rfl rfl) (h := fun F => ?_)⟩
 refine sr ?_
 refine bxA (h := fun b0 => ?_)
 refine ww ?_
 refine nr ?_
 iterate 4 refine ww ?_
 refine nq ?_
 refine sq ?_
 refine sr ?_
 iterate 4 refine ww ?_
 apply brAnd 4 13 17 (by exact rfl)
 ·
  intro hb0
  iterate 3 refine uw ?_
  refine ww ?_
  exact mg (by repeat (first | exact trivial | refine ⟨rfl, ?_⟩ | refine ⟨by rw [hb0]; rfl, ?_⟩)) slz_
 ·
  intro hb0
  repeat (first | refine uz ?_ | refine kz ?_ | refine wz ?_)
  exact mg (by repeat (first | exact trivial | refine ⟨rfl, ?_⟩ | refine ⟨by rw [hb0]; rfl, ?_⟩)) slz_
 refine ww ?_
 apply brOr 6 18 24 (by exact rfl)
 ·
  intro hb1
  iterate 3 refine uw ?_
  refine uz ?_
  refine cl0 (hc := fun w hS => C_dr_within _ _ _ w) (h := ?_)
  refine uw ?_
  refine ww ?_
  exact mg (by repeat (first | exact trivial | refine ⟨rfl, ?_⟩ | refine ⟨by rw [hb1]; rfl, ?_⟩)) slz_
 ·
  intro hb1
  repeat (first | refine uz ?_ | refine kz ?_ | refine wz ?_)
  exact mg (by repeat (first | exact trivial | refine ⟨rfl, ?_⟩ | refine ⟨by rw [hb1]; rfl, ?_⟩)) slz_
 refine ww ?_
 apply brOr 9 25 34 (by exact rfl)
 ·
  intro hb2
  have hw : win p.ps.length 2 p.size = true := by simp only [Bool.or_eq_false_iff, Bool.not_eq_false'] at hb2; exact hb2.2
  have hws := win_iff.1 hw
  iterate 8 refine uw ?_
  refine ww ?_
  exact mg (by repeat (first | exact trivial | refine ⟨rfl, ?_⟩ | refine ⟨by rw [hb2]; rfl, ?_⟩)) slz_
 ·
  intro hb2
  repeat (first | refine uz ?_ | refine kz ?_ | refine wz ?_)
  exact mg (by repeat (first | exact trivial | refine ⟨rfl, ?_⟩ | refine ⟨by rw [hb2]; rfl, ?_⟩)) slz_
 refine ww ?_
 apply brOr 10 35 45 (by exact rfl)
 ·
  intro hb3
  have hw : win p.ps.length 2 p.size = true := by simp only [Bool.or_eq_false_iff, Bool.not_eq_false'] at hb3; exact hb3.1.2
  have hws := win_iff.1 hw
  iterate 7 refine uw ?_
  refine uz ?_
  refine cl0 (hc := fun w hS => C_dr_within _ _ _ w) (h := ?_)
  refine uw ?_
  refine ww ?_
  exact mg (by repeat (first | exact trivial | refine ⟨rfl, ?_⟩ | refine ⟨by rw [hb3]; rfl, ?_⟩)) slz_
 ·
  intro hb3
  repeat (first | refine uz ?_ | refine kz ?_ | refine wz ?_)
  exact mg (by repeat (first | exact trivial | refine ⟨rfl, ?_⟩ | refine ⟨by rw [hb3]; rfl, ?_⟩)) slz_
 refine ww ?_
 apply brOr 5 46 51 (by exact rfl)
 ·
  intro hb4
  iterate 4 refine uw ?_
  refine ww ?_
  exact mg (by repeat (first | exact trivial | refine ⟨rfl, ?_⟩ | refine ⟨by rw [hb4]; rfl, ?_⟩)) slz_
 ·
  intro hb4
  repeat (first | refine uz ?_ | refine kz ?_ | refine wz ?_)
  exact mg (by repeat (first | exact trivial | refine ⟨rfl, ?_⟩ | refine ⟨by rw [hb4]; rfl, ?_⟩)) slz_
 refine nq ?_
 refine czz (fun h5 => ?_) fun h5 => ?_
 ·
  have hb : headOk p = false := by rw [head_not] at h5; simpa using h5
  have hE := chk_badD (p := p) (by rw [pOk, hb]; rfl)
  refine sr ?_
  refine ww ?_
  refine nq ?_
  refine rtn ?_
  refine q_then_ret ?_
  refine q_ret (hR := ?_)
  rw [hE]
  exact fun w hS => ⟨rfl, hS.sub slz_⟩
 ·
  have hb : headOk p = true := by rw [head_not] at h5; simpa using h5
  refine skp ?_
  refine q_seq ?_
  refine sq ?_
  refine sr ?_
  iterate 4 refine ww ?_
  refine nq ?_
  refine bk ?_
  refine lp (X := IZD) (I := fun z => z.k ≤ p.ps.length ∧ pssOk p.seeds p.ps z.k = true) (le := fun z => [(1, .pointer (some ⟨b0, 0, none⟩)), (53, .slice a.pA p.ps.length a.pc), (54, .int .i64 p.ps.length), (55, .int .i64 z.k)]) (Le := fun _ => plL p a b0) (μ := fun z => p.ps.length - z.k) ⟨0⟩ ⟨Nat.zero_le _, rfl⟩ sbz_ slz_ (fun z hz => ?_)
  obtain ⟨hz1, hz2⟩ := hz
  refine sr ?_
  refine ww ?_
  refine nq ?_
  refine sq ?_
  refine czz (fun h6 => ?_) fun h6 => ?_
  ·
   have hkn : z.k < p.ps.length := by simp only [decide_eq_true_eq] at h6; omega
   obtain ⟨x, hx1⟩ : ∃ x, p.ps[z.k]? = some x := ⟨_, List.getElem?_eq_getElem hkn⟩
   have hxe := encPs_at hx1
   have hst := pssOk_succ (seeds := p.seeds) hx1
   have htk : List.take z.k (encPs p.ps) = encPs (p.ps.take z.k) := by unfold encPs; rw [List.map_take]
   have htl : (p.ps.take z.k).length = z.k := by rw [List.length_take]; omega
   refine skp ?_
   refine q_seq ?_
   refine sq ?_
   refine bk ?_
   refine sr ?_
   refine ww ?_
   refine wy (ix (A := a.pA) (m := p.ps.length)) ?_
   refine wy (ldEA (A := a.pA) (hk := hxe)) ?_
   refine al (h := fun b1 => ?_)
   refine ww ?_
   first | refine stA (h := ?_) | refine stEA (h := ?_)
   refine nq ?_
   refine sq ?_
   refine WC.pre (A := a.pA) (m := p.ps.length) atz_ z.k (by omega) ?_
   rw [htk]
   refine rg ?_
   iterate 3 refine ww ?_
   refine wy (slP (A := a.pA) (m := p.ps.length) (cap := a.pc) (hi' := z.k)) ?_
   refine ww ?_
   refine clT (hc := C_ContainsPs (A := a.pA) (c := a.pc) (n := z.k) (es := encPs (p.ps.take z.k)) (g := 114) inferInstance [] [.pointer (some ⟨b1, 0, none⟩)] [.blk b1 103 x.enc] (pAt (p.ps.take z.k) fun y => decide (y.player = x.player)) (by omega) (fun k cs hk => by
    obtain ⟨y, hyk, rfl⟩ := enc_at hk
    rw [pAt_eq hyk]
    exact Tr.frame1 (T_Check1 x b1 y))) (hs := (by repeat (first | exact Spl.nil | (apply Spl.cons; (repeat (first | exact At.here | apply At.there)))))) (h := fun _ _ => ?_)
   have hany : (List.range z.k).any (pAt (p.ps.take z.k) fun y => decide (y.player = x.player)) = dupP p.ps z.k x.player := by have e := pAt_any (p.ps.take z.k) (fun y => decide (y.player = x.player)); rw [htl] at e; exact e
   refine ww ?_
   refine nr ?_
   iterate 2 refine ww ?_
   apply brOr 5 67 72 (by exact rfl)
   ·
    intro hb7
    iterate 2 refine uw ?_
    refine uz ?_
    refine cl0 (hc := fun w hS => C_dr_within _ _ _ w) (h := ?_)
    refine uw ?_
    refine ww ?_
    exact mg (by repeat (first | exact trivial | refine ⟨rfl, ?_⟩ | refine ⟨by rw [hb7]; rfl, ?_⟩)) slz_
   ·
    intro hb7
    repeat (first | refine uz ?_ | refine kz ?_ | refine wz ?_)
    exact mg (by repeat (first | exact trivial | refine ⟨rfl, ?_⟩ | refine ⟨by rw [hb7]; rfl, ?_⟩)) slz_
   refine ww ?_
   apply brOr 5 73 78 (by exact rfl)
   ·
    intro hb8
    iterate 2 refine uw ?_
    refine uz ?_
    refine cl0 (hc := fun w hS => C_dr_within _ _ _ w) (h := ?_)
    refine uw ?_
    refine ww ?_
    exact mg (by repeat (first | exact trivial | refine ⟨rfl, ?_⟩ | refine ⟨by rw [hb8]; rfl, ?_⟩)) slz_
   ·
    intro hb8
    repeat (first | refine uz ?_ | refine kz ?_ | refine wz ?_)
    exact mg (by repeat (first | exact trivial | refine ⟨rfl, ?_⟩ | refine ⟨by rw [hb8]; rfl, ?_⟩)) slz_
   refine ww ?_
   apply brOr 9 79 88 (by exact rfl)
   ·
    intro hb9
    iterate 5 refine uw ?_
    apply brAnd 3 84 87 (by exact rfl)
    ·
     intro hb10
     iterate 3 refine uw ?_
     exact mg (by repeat (first | exact trivial | refine ⟨rfl, ?_⟩ | refine ⟨by rw [hb10]; rfl, ?_⟩ | refine ⟨by rw [hb9]; rfl, ?_⟩)) slz_
    ·
     intro hb10
     repeat (first | refine uz ?_ | refine kz ?_ | refine wz ?_)
     exact mg (by repeat (first | exact trivial | refine ⟨rfl, ?_⟩ | refine ⟨by rw [hb10]; rfl, ?_⟩ | refine ⟨by rw [hb9]; rfl, ?_⟩)) slz_
    refine ww ?_
    exact mg (by repeat (first | exact trivial | refine ⟨rfl, ?_⟩ | refine ⟨by rw [hb9]; rfl, ?_⟩)) slz_
   ·
    intro hb9
    repeat (first | refine uz ?_ | refine kz ?_ | refine wz ?_)
    exact mg (by repeat (first | exact trivial | refine ⟨rfl, ?_⟩ | refine ⟨by rw [hb9]; rfl, ?_⟩)) slz_
   refine nq ?_
   refine czz (fun h11 => ?_) fun h11 => ?_
   ·
    have hE := chk_badD (p := p) (by
     rw [hany, Bool.or_assoc, Bool.or_assoc, ← Bool.or_assoc (!win x.player 0 999), ps_not] at h11
     rw [pOk, pssOk_le (j := z.k + 1) (by rw [hst, hz2, Bool.true_and]; cases hd : dupP p.ps z.k x.player <;> rw [hd] at h11 <;> simp at h11 ⊢; exact h11) (by omega)]; simp)
    refine sr ?_
    refine ww ?_
    refine nq ?_
    refine rtn ?_
    refine q_blk_ret ?_
    iterate 2 refine q_then_ret ?_
    refine q_blk_ret ?_
    refine q_then_ret ?_
    refine q_ret (hR := ?_)
    rw [hE]
    exact fun w hS => ⟨rfl, hS.sub slz_⟩
   ·
    have hpo : dupP p.ps z.k x.player = false ∧ psOk p.seeds z.k x = true := by
     rw [hany, Bool.or_assoc, Bool.or_assoc, ← Bool.or_assoc (!win x.player 0 999), ps_not, Bool.or_eq_false_iff, Bool.not_eq_false'] at h11
     exact h11
    refine skp ?_
    refine q_blk_norm ?_
    refine q_seq ?_
    refine rg ?_
    iterate 2 refine ww ?_
    refine nl ?_
    refine rn (x := z) ⟨z.k + 1⟩ ⟨by dsimp only; omega, by rw [hst, hz2, hpo.1, hpo.2]; rfl⟩ (by dsimp only; omega) sbz_ slz_
  ·
   have hkn : z.k = p.ps.length := by simp only [decide_eq_false_iff_not] at h6; omega
   rw [hkn] at hz2
   refine et ?_
   iterate 2 refine q_then_exit ?_
   refine q_blk_hit ?_
   refine q_seq ?_
   refine sq ?_
   refine sr ?_
   iterate 2 refine ww ?_
   refine clT (hc := T_ContainsInt (E := .ro a.lA 1 p.lots.length (enI p.lots)) (A := a.lA) (c := a.lc) (ws := p.lots) (fun w h => h) (g := 116) inferInstance [] [] [] (fun n => !lotOk n) hln rfl (fun x _ => C0.tr _ (C_Check2 x))) (hs := Spl.cons atz_ (Spl.app _ _)) (h := fun _ _ => ?_)
   refine nq ?_
   refine czz (fun h12 => ?_) fun h12 => ?_
   ·
    have hE := chk_badD (p := p) (by rw [lots_any] at h12; rw [pOk, (by simpa using h12 : p.lots.all lotOk = false)]; simp)
    refine sr ?_
    refine ww ?_
    refine nq ?_
    refine rtn ?_
    refine q_then_ret ?_
    refine q_ret (hR := ?_)
    rw [hE]
    exact fun w hS => ⟨rfl, hS.sub slz_⟩
   ·
    have hlo : p.lots.all lotOk = true := by rw [lots_any] at h12; simpa using h12
    have hE : chkP p = 0 := by rw [chkP, pOk, hb, hz2, hlo]; rfl
    refine skp ?_
    refine q_seq ?_
    refine sr ?_
    refine ww ?_
    refine nq ?_
    refine rtn ?_
    refine q_ret (hR := ?_)
    rw [hE]
    exact fun w hS => ⟨rfl, hS.sub slz_⟩
end Go.Proofs.YthkliiifllhacaaGreat

namespace Go.Proofs.YthkliiifllhacaaGreat
open Go Go.RowKit

theorem Fst.uniq {p : Nat → Bool} {n : Nat} {j j' : Int} (h : Fst p n j) (h' : Fst p n j') : j = j' := by
 rcases h with ⟨k, hk, rfl, hp, hb⟩ | ⟨rfl, hb⟩
 ·
  rcases h' with ⟨k', hk', rfl, hp', hb'⟩ | ⟨rfl, hb'⟩
  ·
   rcases Nat.lt_trichotomy k k' with h | h | h
   ·
    rw [hb' k h] at hp; cases hp
   ·
    rw [h]
   ·
    rw [hb k' h] at hp'; cases hp'
  ·
   rw [hb' k hk] at hp; cases hp
 ·
  rcases h' with ⟨k', hk', rfl, hp', hb'⟩ | ⟨rfl, hb'⟩
  ·
   rw [hb k' hk'] at hp'; cases hp'
  ·
   rfl

theorem C_CloneInts (A : Option Addr) (n c : Nat) (es : List (List Value)) (w : World) (h : Rd w A 1 n es) (hn : n ≤ 100000000) :
  CR Tryz.prog 121 [.slice A n c] w (fun _ : Option Addr × Nat => True) (fun p => .slice p.1 n p.2) (fun p => [.own p.1 p.2 3 1 n es]) := by
 refine ⟨en Tryz.func121 Tryz.ntmps121 ((St.init w).share (e := .ro A 1 n es) h rfl rfl rfl) (h := fun F => ?_)⟩
 refine sr ?_
 refine ww ?_
 refine WL.nilOwn 3 1 (h := ?_)
 refine nq ?_
 refine sq ?_
 refine sr ?_
 refine ww ?_
 refine wy eqlN ?_
 refine nq ?_
 refine czz (fun h0 => ?_) fun h0 => ?_
 ·
  refine sr ?_
  refine ww ?_
  refine nq ?_
  refine rtn ?_
  refine q_then_ret ?_
  refine q_ret (hR := ?_)
  have hn0 : n = 0 := by
   rcases Nat.eq_zero_or_pos n with e | e
   ·
    exact e
   ·
    obtain ⟨ad, rfl⟩ := h.some_ e
    cases h0
  have hes : es = [] := by have := h.len; rw [hn0] at this; exact List.length_eq_zero_iff.1 this
  exact fun w hS => ⟨(none, 0), trivial, by rw [hn0]; rfl, by rw [hn0, hes]; exact hS.sub slz_⟩
 ·
  refine skp ?_
  refine q_seq ?_
  refine sr ?_
  refine bs (h := fun b0 => ?_)
  refine ww ?_
  first | refine ap (h := fun A1 c1 => ?_) | refine ap0 (h := fun A1 c1 => ?_)
  refine ww ?_
  refine nq ?_
  refine rtn ?_
  refine q_ret (hR := ?_)
  exact fun w hS => ⟨(_, _), trivial, by simp only [Nat.zero_add]; rfl, by simp only [Nat.zero_add, List.nil_append] at hS; exact hS.sub slz_⟩
end Go.Proofs.YthkliiifllhacaaGreat

namespace Go.Proofs.YthkliiifllhacaaGreat
open Go Go.RowKit

def InP (p : Pl) (n : Int) : Prop := n = -1 ∨ (0 ≤ n ∧ n < p.ps.length)
theorem psAt_eq {p : Pl} {n : Int} (h : 0 ≤ n ∧ n < p.ps.length) : p.ps[n.toNat]? = some (psAt p n) := by
 unfold psAt
 rw [List.getElem?_eq_getElem (by omega)]; rfl
set_option maxHeartbeats 1000000 in
theorem C_apart (p : Pl) (a : PA) (x y : Int) (hx : InP p x) (hy : InP p y) (w : World) (h : PRd w p a) : C0 Tryz.prog 182 [p.val a, .int .i64 x, .int .i64 y] w (.bool (apartV p x y)) := by
 obtain ⟨hp, hl, hpn, hln, hpc⟩ := h
 refine ⟨en Tryz.func182 Tryz.ntmps182 (((St.init w).share (e := .ro a.pA 3 p.ps.length (encPs p.ps)) hp rfl rfl rfl).share (e := .ro a.lA 1 p.lots.length (enI p.lots)) hl rfl rfl rfl) (h := fun F => ?_)⟩
 refine sr ?_
 refine bxA (h := fun b0 => ?_)
 refine ww ?_
 refine nq ?_
 refine sq ?_
 refine sr ?_
 iterate 3 refine ww ?_
 apply brOr 3 11 14 (by exact rfl)
 ·
  intro hb0
  iterate 2 refine uw ?_
  refine ww ?_
  exact mg (by repeat (first | exact trivial | refine ⟨rfl, ?_⟩ | refine ⟨by rw [hb0]; rfl, ?_⟩)) slz_
 ·
  intro hb0
  repeat (first | refine uz ?_ | refine kz ?_ | refine wz ?_)
  exact mg (by repeat (first | exact trivial | refine ⟨rfl, ?_⟩ | refine ⟨by rw [hb0]; rfl, ?_⟩)) slz_
 refine nq ?_
 refine czz (fun h1 => ?_) fun h1 => ?_
 ·
  have hE : apartV p x y = !decide (x = y) := by rw [apartV, h1]; rfl
  refine sr ?_
  iterate 4 refine ww ?_
  refine nq ?_
  refine rtn ?_
  refine q_then_ret ?_
  refine q_ret (hR := ?_)
  rw [hE]
  exact fun w hS => ⟨rfl, hS.sub slz_⟩
 ·
  have hE : apartV p x y = ((!decide ((psAt p x).nation = (psAt p y).nation) || decide ((psAt p x).nation = 0)) && !((psAt p x).qual && (psAt p y).qual)) := by rw [apartV, h1]; rfl
  obtain ⟨hx1, hy1⟩ : (0 ≤ x ∧ x < p.ps.length) ∧ (0 ≤ y ∧ y < p.ps.length) := by
   simp only [Bool.or_eq_false_iff, decide_eq_false_iff_not] at h1
   rcases hx with h | h <;> rcases hy with h' | h' <;> first | exact absurd h h1.1 | exact absurd h' h1.2 | exact ⟨h, h'⟩
  have hxe := encPs_at (psAt_eq hx1)
  have hye := encPs_at (psAt_eq hy1)
  refine skp ?_
  refine q_seq ?_
  refine ct (X := Nat × Nat) (fun _ => True) (fun u => [(3, .pointer (some ⟨b0, 0, none⟩)), (7, .pointer (some ⟨u.1, 0, none⟩)), (8, .pointer (some ⟨u.2, 0, none⟩))]) (fun u => .blk u.1 103 (psAt p x).enc :: .blk u.2 103 (psAt p y).enc :: plL p a b0) (h1 := ?_) (h2 := ?_)
  ·
   refine rgD0 (by kernel_rfl) (h := ?_)
   refine tw 0 ?_
   refine tw 1 ?_
   refine tw 2 ?_
   refine tk 3 (hy := ix (A := a.pA) (m := p.ps.length)) (h := ?_)
   refine tk 4 (hy := ldEA (A := a.pA) (hk := hxe)) (h := ?_)
   refine tw 5 ?_
   refine tw 6 ?_
   refine tw 7 ?_
   refine tk 8 (hy := ix (A := a.pA) (m := p.ps.length)) (h := ?_)
   refine tk 9 (hy := ldEA (A := a.pA) (hk := hye)) (h := ?_)
   refine two 10 11 (h1 := ?_) (h2 := ?_)
   ·
    refine al (h := fun b1 => ?_)
    refine nx (h := ?_)
    refine one 11 (h := ?_)
    refine al (h := fun b2 => ?_)
    refine nx (h := ?_)
    refine one 12 (h := ?_)
    first | refine stA (h := ?_) | refine stEA (h := ?_)
    refine nx (h := ?_)
    refine one 13 (h := ?_)
    first | refine stA (h := ?_) | refine stEA (h := ?_)
    refine nx (h := ?_)
    refine dn (h := ?_)
    exact ctn (_, _) trivial sbz_ slz_
   ·
    refine al (h := fun b3 => ?_)
    refine nx (h := ?_)
    refine one 10 (h := ?_)
    refine al (h := fun b4 => ?_)
    refine nx (h := ?_)
    refine one 12 (h := ?_)
    first | refine stA (h := ?_) | refine stEA (h := ?_)
    refine nx (h := ?_)
    refine one 13 (h := ?_)
    first | refine stA (h := ?_) | refine stEA (h := ?_)
    refine nx (h := ?_)
    refine dn (h := ?_)
    exact ctn (_, _) trivial sbz_ slz_
  rintro ⟨u1, u2⟩ -
  dsimp only
  refine sr ?_
  iterate 6 refine ww ?_
  apply brOr 4 33 37 (by exact rfl)
  ·
   intro hb2
   iterate 3 refine uw ?_
   refine ww ?_
   exact mg (by repeat (first | exact trivial | refine ⟨rfl, ?_⟩ | refine ⟨by rw [hb2]; rfl, ?_⟩)) slz_
  ·
   intro hb2
   repeat (first | refine uz ?_ | refine kz ?_ | refine wz ?_)
   exact mg (by repeat (first | exact trivial | refine ⟨rfl, ?_⟩ | refine ⟨by rw [hb2]; rfl, ?_⟩)) slz_
  refine ww ?_
  apply brAnd 8 38 46 (by exact rfl)
  ·
   intro hb3
   iterate 3 refine uw ?_
   apply brAnd 3 41 44 (by exact rfl)
   ·
    intro hb4
    iterate 3 refine uw ?_
    exact mg (by repeat (first | exact trivial | refine ⟨rfl, ?_⟩ | refine ⟨by rw [hb4]; rfl, ?_⟩ | refine ⟨by rw [hb3]; rfl, ?_⟩)) slz_
   ·
    intro hb4
    repeat (first | refine uz ?_ | refine kz ?_ | refine wz ?_)
    exact mg (by repeat (first | exact trivial | refine ⟨rfl, ?_⟩ | refine ⟨by rw [hb4]; rfl, ?_⟩ | refine ⟨by rw [hb3]; rfl, ?_⟩)) slz_
   refine uw ?_
   refine ww ?_
   exact mg (by repeat (first | exact trivial | refine ⟨rfl, ?_⟩ | refine ⟨by rw [hb3]; rfl, ?_⟩)) slz_
  ·
   intro hb3
   repeat (first | refine uz ?_ | refine kz ?_ | refine wz ?_)
   exact mg (by repeat (first | exact trivial | refine ⟨rfl, ?_⟩ | refine ⟨by rw [hb3]; rfl, ?_⟩)) slz_
  refine ww ?_
  refine nq ?_
  refine rtn ?_
  refine q_ret (hR := ?_)
  rw [hE]
  exact fun w hS => ⟨rfl, hS.sub slz_⟩
theorem C_seat (p : Pl) (a : PA) (slot n : Int) (hq : p.Ok) (w : World) (h : PRd w p a) : C0 Tryz.prog 123 [p.val a, .int .i64 slot, .int .i64 n] w (.bool (seatV p slot n)) := by
 obtain ⟨hp, hl, hpn, hln, hpc⟩ := h
 have hz := hq.z
 refine ⟨en Tryz.func123 Tryz.ntmps123 (((St.init w).share (e := .ro a.pA 3 p.ps.length (encPs p.ps)) hp rfl rfl rfl).share (e := .ro a.lA 1 p.lots.length (enI p.lots)) hl rfl rfl rfl) (h := fun F => ?_)⟩
 refine sr ?_
 refine bxA (h := fun b0 => ?_)
 refine ww ?_
 refine nr ?_
 iterate 10 refine ww ?_
 refine bs (h := fun b1 => ?_)
 refine ww ?_
 refine nq ?_
 refine sq ?_
 refine bk ?_
 refine sr ?_
 iterate 3 refine ww ?_
 apply brAnd 4 22 26 (by exact rfl)
 ·
  intro hb0
  iterate 3 refine uw ?_
  refine ww ?_
  exact mg (by repeat (first | exact trivial | refine ⟨rfl, ?_⟩ | refine ⟨by rw [hb0]; rfl, ?_⟩)) slz_
 ·
  intro hb0
  repeat (first | refine uz ?_ | refine kz ?_ | refine wz ?_)
  exact mg (by repeat (first | exact trivial | refine ⟨rfl, ?_⟩ | refine ⟨by rw [hb0]; rfl, ?_⟩)) slz_
 refine ww ?_
 refine nq ?_
 refine czz (fun h1 => ?_) fun h1 => ?_
 ·
  have hE : seatV p slot n = decide (n = 0) := by rw [seatV, h1]; rfl
  refine sr ?_
  iterate 3 refine ww ?_
  refine nq ?_
  refine rtn ?_
  refine q_blk_ret ?_
  refine q_then_ret ?_
  refine q_ret (hR := ?_)
  rw [hE]
  exact fun w hS => ⟨rfl, hS.sub slz_⟩
 ·
  have k1 : (decide (slot = 0) && decide (0 < p.seeds)) = false := h1
  refine sr ?_
  iterate 6 refine ww ?_
  apply brAnd 4 35 39 (by exact rfl)
  ·
   intro hb2
   iterate 3 refine uw ?_
   refine ww ?_
   exact mg (by repeat (first | exact trivial | refine ⟨rfl, ?_⟩ | refine ⟨by rw [hb2]; rfl, ?_⟩)) slz_
  ·
   intro hb2
   repeat (first | refine uz ?_ | refine kz ?_ | refine wz ?_)
   exact mg (by repeat (first | exact trivial | refine ⟨rfl, ?_⟩ | refine ⟨by rw [hb2]; rfl, ?_⟩)) slz_
  refine ww ?_
  refine nq ?_
  refine czz (fun h3 => ?_) fun h3 => ?_
  ·
   have hE : seatV p slot n = decide (n = 1) := by rw [seatV, k1, h3]; rfl
   refine sr ?_
   iterate 3 refine ww ?_
   refine nq ?_
   refine rtn ?_
   refine q_blk_ret ?_
   refine q_then_ret ?_
   refine q_ret (hR := ?_)
   rw [hE]
   exact fun w hS => ⟨rfl, hS.sub slz_⟩
  ·
   have k2 : (decide (slot = p.size - 1) && decide (1 < p.seeds)) = false := h3
   refine sr ?_
   iterate 3 refine ww ?_
   apply brOr 5 45 50 (by exact rfl)
   ·
    intro hb4
    iterate 4 refine uw ?_
    refine ww ?_
    exact mg (by repeat (first | exact trivial | refine ⟨rfl, ?_⟩ | refine ⟨by rw [hb4]; rfl, ?_⟩)) slz_
   ·
    intro hb4
    repeat (first | refine uz ?_ | refine kz ?_ | refine wz ?_)
    exact mg (by repeat (first | exact trivial | refine ⟨rfl, ?_⟩ | refine ⟨by rw [hb4]; rfl, ?_⟩)) slz_
   refine ww ?_
   refine nq ?_
   refine czz (fun h5 => ?_) fun h5 => ?_
   ·
    have hE : seatV p slot n = true := by rw [seatV, k1, k2, h5]; rfl
    refine sr ?_
    refine ww ?_
    refine nq ?_
    refine rtn ?_
    refine q_blk_ret ?_
    refine q_then_ret ?_
    refine q_ret (hR := ?_)
    rw [hE]
    exact fun w hS => ⟨rfl, hS.sub slz_⟩
   ·
    have hE : seatV p slot n = (decide (1 < n) && [p.size / 4, p.size - 1 - p.size / 4].any fun x => decide (slot = x)) := by rw [seatV, k1, k2, h5]; rfl
    refine skp ?_
    refine q_blk_norm ?_
    refine q_seq ?_
    refine sr ?_
    iterate 3 refine ww ?_
    apply brAnd 4 53 57 (by exact rfl)
    ·
     intro hb6
     iterate 2 refine uw ?_
     refine uz ?_
     refine cl0 (hc := fun w hS => C_slices_Contains [p.size / 4, p.size - 1 - p.size / 4] slot (some ⟨b1, 0, none⟩) 2 2 w (hS.get (by repeat (first | exact Rds.own | apply Rds.there))) (by omega)) (h := ?_)
     refine ww ?_
     exact mg (by repeat (first | exact trivial | refine ⟨rfl, ?_⟩ | refine ⟨by rw [hb6]; rfl, ?_⟩)) slz_
    ·
     intro hb6
     repeat (first | refine uz ?_ | refine kz ?_ | refine wz ?_)
     exact mg (by repeat (first | exact trivial | refine ⟨rfl, ?_⟩ | refine ⟨by rw [hb6]; rfl, ?_⟩)) slz_
    refine ww ?_
    refine nq ?_
    refine rtn ?_
    refine q_ret (hR := ?_)
    rw [hE]
    exact fun w hS => ⟨rfl, hS.sub slz_⟩
theorem T_bye (p : Pl) (a : PA) (b b2 : Nat) (n o : Int) : Tr Tryz.prog 181 [.int .i64 n, .int .i64 o, .pointer (some ⟨b, 0, none⟩), .pointer (some ⟨b2, 0, none⟩)] [.blk b 37 (p.cells a), .blk b2 3 [.int .i64 (byesV p)]] (fun _ : Unit => True) (fun _ => .bool (byeV p n o)) (fun _ => [.blk b 37 (p.cells a), .blk b2 3 [.int .i64 (byesV p)]]) := by
 refine ⟨fun w0 w R hst => ?_⟩
 refine en Tryz.func181 Tryz.ntmps181 hst (h := fun F => ?_)
 refine sr ?_
 refine ww ?_
 refine nr ?_
 iterate 3 refine ww ?_
 apply brOr 5 9 14 (by exact rfl)
 ·
  intro hb0
  iterate 4 refine uw ?_
  refine ww ?_
  exact mg (by repeat (first | exact trivial | refine ⟨rfl, ?_⟩ | refine ⟨by rw [hb0]; rfl, ?_⟩)) slz_
 ·
  intro hb0
  repeat (first | refine uz ?_ | refine kz ?_ | refine wz ?_)
  exact mg (by repeat (first | exact trivial | refine ⟨rfl, ?_⟩ | refine ⟨by rw [hb0]; rfl, ?_⟩)) slz_
 refine ww ?_
 apply brOr 7 15 22 (by exact rfl)
 ·
  intro hb1
  iterate 5 refine uw ?_
  refine uz ?_
  refine wy eqlB ?_
  refine ww ?_
  exact mg (by repeat (first | exact trivial | refine ⟨rfl, ?_⟩ | refine ⟨by rw [hb1]; rfl, ?_⟩)) slz_
 ·
  intro hb1
  repeat (first | refine uz ?_ | refine kz ?_ | refine wz ?_)
  exact mg (by repeat (first | exact trivial | refine ⟨rfl, ?_⟩ | refine ⟨by rw [hb1]; rfl, ?_⟩)) slz_
 refine ww ?_
 refine nq ?_
 refine rtn ?_
 refine q_ret (hR := ?_)
 exact fun w hS => ⟨(), trivial, rfl, hS.sub slz_⟩
theorem C_match (p : Pl) (a : PA) (x y : Int) (hq : p.Ok) (hx : InP p x) (hy : InP p y) (w : World) (h : PRd w p a) : C0 Tryz.prog 124 [p.val a, .int .i64 x, .int .i64 y] w (.bool (matchV p x y)) := by
 obtain ⟨hp, hl, hpn, hln, hpc⟩ := h
 have hz := hq.z
 have hqn := hq.n
 refine ⟨en Tryz.func124 Tryz.ntmps124 (((St.init w).share (e := .ro a.pA 3 p.ps.length (encPs p.ps)) hp rfl rfl rfl).share (e := .ro a.lA 1 p.lots.length (enI p.lots)) hl rfl rfl rfl) (h := fun F => ?_)⟩
 refine sr ?_
 refine bxA (h := fun b0 => ?_)
 refine ww ?_
 refine nr ?_
 iterate 6 refine ww ?_
 refine al (h := fun b1 => ?_)
 first | refine st (h := ?_) | refine stE (h := ?_)
 refine nr ?_
 iterate 2 refine ww ?_
 refine nq ?_
 refine sq ?_
 refine sr ?_
 iterate 5 refine ww ?_
 apply brAnd 19 20 39 (by exact rfl)
 ·
  intro hb0
  iterate 3 refine uw ?_
  apply brAnd 5 23 28 (by exact rfl)
  ·
   intro hb1
   iterate 5 refine uw ?_
   exact mg (by repeat (first | exact trivial | refine ⟨rfl, ?_⟩ | refine ⟨by rw [hb1]; rfl, ?_⟩ | refine ⟨by rw [hb0]; rfl, ?_⟩)) slz_
  ·
   intro hb1
   repeat (first | refine uz ?_ | refine kz ?_ | refine wz ?_)
   exact mg (by repeat (first | exact trivial | refine ⟨rfl, ?_⟩ | refine ⟨by rw [hb1]; rfl, ?_⟩ | refine ⟨by rw [hb0]; rfl, ?_⟩)) slz_
  refine uw ?_
  apply brOr 9 29 38 (by exact rfl)
  ·
   intro hb2
   iterate 3 refine uw ?_
   apply brAnd 5 32 37 (by exact rfl)
   ·
    intro hb3
    iterate 5 refine uw ?_
    exact mg (by repeat (first | exact trivial | refine ⟨rfl, ?_⟩ | refine ⟨by rw [hb3]; rfl, ?_⟩ | refine ⟨by rw [hb0]; rfl, ?_⟩ | refine ⟨by rw [hb2]; rfl, ?_⟩)) slz_
   ·
    intro hb3
    repeat (first | refine uz ?_ | refine kz ?_ | refine wz ?_)
    exact mg (by repeat (first | exact trivial | refine ⟨rfl, ?_⟩ | refine ⟨by rw [hb3]; rfl, ?_⟩ | refine ⟨by rw [hb0]; rfl, ?_⟩ | refine ⟨by rw [hb2]; rfl, ?_⟩)) slz_
   refine uw ?_
   exact mg (by repeat (first | exact trivial | refine ⟨rfl, ?_⟩ | refine ⟨by rw [hb2]; rfl, ?_⟩ | refine ⟨by rw [hb0]; rfl, ?_⟩)) slz_
  ·
   intro hb2
   repeat (first | refine uz ?_ | refine kz ?_ | refine wz ?_)
   exact mg (by repeat (first | exact trivial | refine ⟨rfl, ?_⟩ | refine ⟨by rw [hb2]; rfl, ?_⟩ | refine ⟨by rw [hb0]; rfl, ?_⟩)) slz_
  refine ww ?_
  exact mg (by repeat (first | exact trivial | refine ⟨rfl, ?_⟩ | refine ⟨by rw [hb0]; rfl, ?_⟩)) slz_
 ·
  intro hb0
  repeat (first | refine uz ?_ | refine kz ?_ | refine wz ?_)
  exact mg (by repeat (first | exact trivial | refine ⟨rfl, ?_⟩ | refine ⟨by rw [hb0]; rfl, ?_⟩)) slz_
 refine nq ?_
 refine czz (fun h4 => ?_) fun h4 => ?_
 ·
  have hE : matchV p x y = false := by rw [matchV, show (decide (byesV p ≤ p.seeds) && _) = true from h4]; rfl
  refine sr ?_
  refine ww ?_
  refine nq ?_
  refine rtn ?_
  refine q_then_ret ?_
  refine q_ret (hR := ?_)
  rw [hE]
  exact fun w hS => ⟨rfl, hS.sub slz_⟩
 ·
  have hE : matchV p x y = (apartV p x y && byeV p x y && byeV p y x) := by rw [matchV, show (decide (byesV p ≤ p.seeds) && _) = false from h4]; rfl
  refine skp ?_
  refine q_seq ?_
  refine sr ?_
  iterate 3 refine ww ?_
  refine cl0 (hc := fun w hS => C_apart p a x y hx hy w ⟨hS.get, hS.get, hpn, hln, hpc⟩) (h := ?_)
  refine ww ?_
  apply brAnd 5 44 49 (by exact rfl)
  ·
   intro hb5
   iterate 3 refine uw ?_
   refine uz ?_
   refine clfT inferInstance (fi := []) (cap := [.pointer (some ⟨b0, 0, none⟩), .pointer (some ⟨b1, 0, none⟩)]) (by exact rfl) (by repeat (first | exact Evs.nil | (apply Evs.cons; exact rfl))) (T_bye p a b0 b1 x y) rfl (by repeat (first | exact Spl.nil | (apply Spl.cons; (repeat (first | exact At.here | apply At.there))))) (h := fun _ _ => ?_)
   refine ww ?_
   exact mg (by repeat (first | exact trivial | refine ⟨rfl, ?_⟩ | refine ⟨by rw [hb5]; rfl, ?_⟩)) slz_
  ·
   intro hb5
   repeat (first | refine uz ?_ | refine kz ?_ | refine wz ?_)
   exact mg (by repeat (first | exact trivial | refine ⟨rfl, ?_⟩ | refine ⟨by rw [hb5]; rfl, ?_⟩)) slz_
  refine ww ?_
  apply brAnd 5 50 55 (by exact rfl)
  ·
   intro hb6
   iterate 3 refine uw ?_
   refine uz ?_
   refine clfT inferInstance (fi := []) (cap := [.pointer (some ⟨b0, 0, none⟩), .pointer (some ⟨b1, 0, none⟩)]) (by exact rfl) (by repeat (first | exact Evs.nil | (apply Evs.cons; exact rfl))) (T_bye p a b0 b1 y x) rfl (by repeat (first | exact Spl.nil | (apply Spl.cons; (repeat (first | exact At.here | apply At.there))))) (h := fun _ _ => ?_)
   refine ww ?_
   exact mg (by repeat (first | exact trivial | refine ⟨rfl, ?_⟩ | refine ⟨by rw [hb6]; rfl, ?_⟩)) slz_
  ·
   intro hb6
   repeat (first | refine uz ?_ | refine kz ?_ | refine wz ?_)
   exact mg (by repeat (first | exact trivial | refine ⟨rfl, ?_⟩ | refine ⟨by rw [hb6]; rfl, ?_⟩)) slz_
  refine ww ?_
  refine nq ?_
  refine rtn ?_
  refine q_ret (hR := ?_)
  rw [hE]
  exact fun w hS => ⟨rfl, hS.sub slz_⟩
def plyV (p : Pl) (n : Int) : Int := bif decide (n = -1) then -1 else (psAt p n).player
structure ShZ where
 (k : Nat) (A : Option Addr) (c : Nat)
theorem C_sheet (p : Pl) (a : PA) (l : List Int) (A : Option Addr) (n c : Nat) (hn : l.length = n) (hn2 : n ≤ 1000) (hin : ∀ x ∈ l, InP p x) (w : World) (h : PRd w p a) (hA : Rd w A 1 n (enI l)) : CR Tryz.prog 78 [p.val a, .slice A n c] w (fun _ : Option Addr × Nat => True) (fun x => .slice x.1 n x.2) (fun x => [.own x.1 x.2 3 1 n (enI (l.map (plyV p)))]) := by
 obtain ⟨hp, hl, hpn, hln, hpc⟩ := h
 refine ⟨en Tryz.func78 Tryz.ntmps78 ((((St.init w).share (e := .ro a.pA 3 p.ps.length (encPs p.ps)) hp rfl rfl rfl).share (e := .ro a.lA 1 p.lots.length (enI p.lots)) hl rfl rfl rfl).share (e := .ro A 1 n (enI l)) hA rfl rfl rfl) (h := fun F => ?_)⟩
 refine sr ?_
 refine bxA (h := fun b0 => ?_)
 refine ww ?_
 refine nq ?_
 refine sq ?_
 refine WC.nilOwn 3 1 (h := ?_)
 refine rg ?_
 refine ww ?_
 refine nq ?_
 refine sq ?_
 refine sr ?_
 iterate 3 refine ww ?_
 refine nq ?_
 refine bk ?_
 refine lp (X := ShZ) (I := fun z => z.k ≤ n) (le := fun z => [(2, .pointer (some ⟨b0, 0, none⟩)), (5, .slice z.A z.k z.c), (8, .slice A n c), (9, .int .i64 n), (10, .int .i64 z.k)]) (Le := fun z => .own z.A z.c 3 1 z.k (enI ((l.take z.k).map (plyV p))) :: .ro A 1 n (enI l) :: plL p a b0) (μ := fun z => n - z.k) ⟨0, none, 0⟩ (Nat.zero_le _) sbz_ slz_ (fun z hz => ?_)
 refine sr ?_
 refine ww ?_
 refine nq ?_
 refine sq ?_
 refine czz (fun h0 => ?_) fun h0 => ?_
 ·
  have hkn : z.k < n := by simp only [decide_eq_true_eq] at h0; omega
  obtain ⟨x, hx1⟩ : ∃ x, l[z.k]? = some x := ⟨_, List.getElem?_eq_getElem (by omega)⟩
  have hxe := enI_at hx1
  have hxr := hin x (List.mem_of_getElem? hx1)
  have hst : enI ((l.take (z.k + 1)).map (plyV p)) = enI ((l.take z.k).map (plyV p)) ++ [[.int .i64 (plyV p x)]] := by rw [List.take_add_one, hx1, List.map_append, enI_app]; rfl
  refine skp ?_
  refine q_seq ?_
  refine sq ?_
  refine bk ?_
  refine sr ?_
  refine wy (ix (A := A) (m := n)) ?_
  refine wy (ldE (A := A) (hk := hxe)) ?_
  refine ww ?_
  refine nr ?_
  iterate 2 refine ww ?_
  refine nq ?_
  refine czz (fun h1 => ?_) fun h1 => ?_
  ·
   have hv : plyV p x = -1 := by rw [plyV, h1]; rfl
   refine rg ?_
   refine ww ?_
   refine bs (h := fun b1 => ?_)
   first | refine ap (h := fun A1 c1 => ?_) | refine ap0 (h := fun A1 c1 => ?_)
   refine ww ?_
   refine nl ?_
   refine q_blk_norm ?_
   refine q_seq ?_
   refine rg ?_
   iterate 2 refine ww ?_
   refine nl ?_
   refine rn (x := z) ⟨z.k + 1, _, _⟩ (by dsimp only; omega) (by dsimp only; omega) sbz_ (by dsimp only; rw [hst, hv]; repeat (first | exact SubL.nil | (apply SubL.cons; (repeat (first | exact At.here | apply At.there))) | exact SubL.refl _ | apply SubL.skip))
  ·
   have hv : plyV p x = (psAt p x).player := by rw [plyV, h1]; rfl
   have hx2 : 0 ≤ x ∧ x < p.ps.length := by
    rcases hxr with h | h
    ·
     exact absurd h (of_decide_eq_false h1)
    ·
     exact h
   have hpe := encPs_at (psAt_eq hx2)
   refine rg ?_
   iterate 4 refine ww ?_
   refine wy (ix (A := a.pA) (m := p.ps.length)) ?_
   refine ww ?_
   refine wy (ldE (A := a.pA) (hk := hpe)) ?_
   refine bs (h := fun b2 => ?_)
   first | refine ap (h := fun A2 c2 => ?_) | refine ap0 (h := fun A2 c2 => ?_)
   refine ww ?_
   refine nl ?_
   refine q_blk_norm ?_
   refine q_seq ?_
   refine rg ?_
   iterate 2 refine ww ?_
   refine nl ?_
   refine rn (x := z) ⟨z.k + 1, _, _⟩ (by dsimp only; omega) (by dsimp only; omega) sbz_ (by dsimp only; rw [hst, hv]; repeat (first | exact SubL.nil | (apply SubL.cons; (repeat (first | exact At.here | apply At.there))) | exact SubL.refl _ | apply SubL.skip))
 ·
  have hkn : z.k = n := by simp only [decide_eq_false_iff_not] at h0; omega
  rw [hkn, List.take_of_length_le (by omega)]
  refine et ?_
  iterate 2 refine q_then_exit ?_
  refine q_blk_hit ?_
  refine q_seq ?_
  refine sr ?_
  iterate 2 refine ww ?_
  refine nq ?_
  refine rtn ?_
  refine q_ret (hR := ?_)
  exact fun w hS => ⟨(z.A, z.c), trivial, rfl, hS.sub slz_⟩
end Go.Proofs.YthkliiifllhacaaGreat

namespace Go.Proofs.YthkliiifllhacaaGreat
open Go Go.RowKit

def posV (lt : Int → Int → Bool) (l : List Int) (x : Int) : Nat → Nat
 | 0 => 0
 | j + 1 => match l[j]? with
  | some y => bif lt x y then posV lt l x j else j + 1
  | none => j + 1
def insV (lt : Int → Int → Bool) (l : List Int) (x : Int) : List Int := l.take (posV lt l x l.length) ++ x :: l.drop (posV lt l x l.length)
def sortTo (lt : Int → Int → Bool) (xs : List Int) : Nat → List Int
 | 0 => []
 | k + 1 => match xs[k]? with
  | some x => insV lt (sortTo lt xs k) x
  | none => sortTo lt xs k
def sortV (lt : Int → Int → Bool) (xs : List Int) : List Int := sortTo lt xs xs.length
theorem posV_le (lt : Int → Int → Bool) (l : List Int) (x : Int) : ∀ j, posV lt l x j ≤ j
 | 0 => Nat.le_refl _
 | j + 1 => by
  rw [posV]
  cases l[j]? with
  | none => exact Nat.le_refl _
  | some y =>
   show (bif lt x y then posV lt l x j else j + 1) ≤ j + 1
   cases lt x y
   ·
    exact Nat.le_refl _
   ·
    exact Nat.le_succ_of_le (posV_le lt l x j)
theorem insV_len (lt : Int → Int → Bool) (l : List Int) (x : Int) : (insV lt l x).length = l.length + 1 := by
 have := posV_le lt l x l.length
 simp [insV]; omega
theorem sortTo_len (lt : Int → Int → Bool) (xs : List Int) : ∀ k, k ≤ xs.length → (sortTo lt xs k).length = k
 | 0, _ => rfl
 | k + 1, hk => by
  rw [sortTo, List.getElem?_eq_getElem (by omega)]
  simp only [insV_len, sortTo_len lt xs k (by omega)]
theorem posV_step {lt : Int → Int → Bool} {l : List Int} {x y : Int} {j : Nat} (h : l[j]? = some y) : posV lt l x (j + 1) = bif lt x y then posV lt l x j else j + 1 := by rw [posV, h]
theorem insV_mem (lt : Int → Int → Bool) (l : List Int) (x y : Int) : y ∈ insV lt l x ↔ y = x ∨ y ∈ l := by
 unfold insV
 constructor
 ·
  intro h
  rcases List.mem_append.1 h with h | h
  ·
   exact .inr (List.mem_of_mem_take h)
  ·
   rcases List.mem_cons.1 h with h | h
   ·
    exact .inl h
   ·
    exact .inr (List.mem_of_mem_drop h)
 ·
  rintro (rfl | h)
  ·
   exact List.mem_append.2 (.inr (List.mem_cons_self ..))
  ·
   rw [← List.take_append_drop (posV lt l x l.length) l] at h
   rcases List.mem_append.1 h with h | h
   ·
    exact List.mem_append.2 (.inl h)
   ·
    exact List.mem_append.2 (.inr (List.mem_cons_of_mem _ h))
theorem sortTo_mem (lt : Int → Int → Bool) (xs : List Int) (y : Int) : ∀ k, k ≤ xs.length → (y ∈ sortTo lt xs k ↔ y ∈ xs.take k)
 | 0, _ => by simp [sortTo]
 | k + 1, hk => by
  have h : xs[k]? = some xs[k] := List.getElem?_eq_getElem (by omega)
  rw [sortTo, h, List.take_add_one, h]
  simp only [insV_mem, sortTo_mem lt xs y k (by omega), List.mem_append, Option.toList_some, List.mem_singleton]
  exact Or.comm
theorem sortV_mem (lt : Int → Int → Bool) (xs : List Int) (y : Int) : y ∈ sortV lt xs ↔ y ∈ xs := by
 rw [sortV, sortTo_mem lt xs y _ (Nat.le_refl _), List.take_length]
def midV (lt : Int → Int → Bool) (xs : List Int) (k j : Nat) (x : Int) : List Int := (sortTo lt xs k).take j ++ x :: ((sortTo lt xs k).drop j ++ xs.drop (k + 1))
theorem mid_start {lt : Int → Int → Bool} {xs : List Int} {k : Nat} {x : Int} (hx : xs[k]? = some x) : midV lt xs k k x = sortTo lt xs k ++ xs.drop k := by
 have hk : k < xs.length := (List.getElem?_eq_some_iff.1 hx).1
 have hl := sortTo_len lt xs k (by omega)
 unfold midV
 rw [List.take_of_length_le (by omega), List.drop_of_length_le (by omega), List.nil_append, List.drop_eq_getElem_cons hk]
 congr 2
 rw [List.getElem?_eq_getElem hk] at hx
 injection hx with hx; exact hx.symm
theorem mid_at {lt : Int → Int → Bool} {xs : List Int} {k j : Nat} {x : Int} (hk : k < xs.length) (hj : j ≤ k) : (midV lt xs k j x)[j]? = some x := by
 have := sortTo_len lt xs k (by omega)
 unfold midV
 have hl : ((sortTo lt xs k).take j).length = j := by rw [List.length_take]; omega
 rw [List.getElem?_append_right (by omega), hl, Nat.sub_self]; rfl
theorem mid_below {lt : Int → Int → Bool} {xs : List Int} {k j : Nat} {x y : Int} (hk : k < xs.length) (hj : j + 1 ≤ k) (hy : (sortTo lt xs k)[j]? = some y) : (midV lt xs k (j + 1) x)[j]? = some y := by
 have := sortTo_len lt xs k (by omega)
 unfold midV
 rw [List.getElem?_append_left (by rw [List.length_take]; omega), List.getElem?_take]
 simp [hy]
theorem mid_swap {lt : Int → Int → Bool} {xs : List Int} {k j : Nat} {x y : Int} (hk : k < xs.length) (hj : j + 1 ≤ k) (hy : (sortTo lt xs k)[j]? = some y) : ((midV lt xs k (j + 1) x).set (j + 1) y).set j x = midV lt xs k j x := by
 have hl := sortTo_len lt xs k (by omega)
 have hjl : j < (sortTo lt xs k).length := by omega
 unfold midV
 have ht : (sortTo lt xs k).take (j + 1) = (sortTo lt xs k).take j ++ [y] := by rw [List.take_add_one, hy]; rfl
 have hd : (sortTo lt xs k).drop j = y :: (sortTo lt xs k).drop (j + 1) := by
  rw [List.drop_eq_getElem_cons hjl]
  congr 1
  rw [List.getElem?_eq_getElem hjl] at hy
  injection hy
 have hlt : ((sortTo lt xs k).take j).length = j := by rw [List.length_take]; omega
 rw [ht, hd, List.append_assoc, List.set_append_right _ _ (by omega), hlt]
 rw [show j + 1 - j = 1 by omega]
 simp only [List.singleton_append, List.set_cons_succ, List.set_cons_zero]
 rw [List.set_append_right _ _ (by omega), hlt, Nat.sub_self]
 simp
theorem mid_end {lt : Int → Int → Bool} {xs : List Int} {k : Nat} {x : Int} (hx : xs[k]? = some x) (j : Nat) (hj : posV lt (sortTo lt xs k) x k = j) : midV lt xs k j x = sortTo lt xs (k + 1) ++ xs.drop (k + 1) := by
 have hk : k < xs.length := (List.getElem?_eq_some_iff.1 hx).1
 have hl := sortTo_len lt xs k (by omega)
 rw [sortTo, hx]
 unfold midV insV
 simp only
 rw [hl, hj]
 simp

def cmpPD (p : Pl) (x y : Int) : Int := (psAt p x).player - (psAt p y).player
def ltP (p : Pl) (x y : Int) : Bool := decide (cmpPD p x y < 0)
abbrev ordL (p : Pl) (a : PA) (b : Nat) : List Ent := [.blk b 37 (p.cells a), .ro a.pA 3 p.ps.length (encPs p.ps)]
theorem ps_rng {p : Pl} (hq : p.Ok) {x : Int} (hx : 0 ≤ x ∧ x < p.ps.length) : 0 ≤ (psAt p x).player ∧ (psAt p x).player ≤ 999 := (hq.pr _ _ (psAt_eq hx)).1
theorem T_dsort (p : Pl) (a : PA) (b : Nat) (hq : p.Ok) (x y : Int) (hx : 0 ≤ x ∧ x < p.ps.length) (hy : 0 ≤ y ∧ y < p.ps.length) :
  Tr Tryz.prog 118 [.int .i64 x, .int .i64 y, .pointer (some ⟨b, 0, none⟩)] (ordL p a b) (fun _ : Unit => True) (fun _ => .int .i64 (cmpPD p x y)) (fun _ => ordL p a b) := by
 refine ⟨fun w0 w R hst => ?_⟩
 have hge := encPs_at (psAt_eq hx)
 have hhe := encPs_at (psAt_eq hy)
 have hgo := ps_rng hq hx
 have hho := ps_rng hq hy
 refine en Tryz.func118 Tryz.ntmps118 hst (h := fun F => ?_)
 refine sr ?_
 refine ww ?_
 refine nq ?_
 refine sq ?_
 refine rgD (by kernel_rfl) [(1000000, .blk b 37 (p.cells a)), (1000000, .ro a.pA 3 p.ps.length (encPs p.ps))] (by repeat (first | exact HS.nil | (apply HS.keep; (repeat (first | exact At.here | apply At.there))) | (apply HS.ro; (repeat (first | exact Rds.ro | exact Rds.own | apply Rds.there))))) (h := ?_)
 refine tw 0 ?_
 refine tw 1 ?_
 refine tw 2 ?_
 refine tk 3 (hy := ix (A := a.pA) (m := p.ps.length)) (h := ?_)
 refine tw 4 ?_
 refine tk 5 (hy := ldE (A := a.pA) (hk := hge)) (h := ?_)
 refine tw 6 ?_
 refine tw 7 ?_
 refine tw 8 ?_
 refine tk 9 (hy := ix (A := a.pA) (m := p.ps.length)) (h := ?_)
 refine tw 10 ?_
 refine tk 11 (hy := ldE (A := a.pA) (hk := hhe)) (h := ?_)
 refine tw 12 ?_
 refine tw 13 ?_
 refine dn (h := ?_)
 refine q_seq ?_
 refine rtn ?_
 refine q_ret (hR := ?_)
 exact fun w hS => ⟨(), trivial, rfl, hS.sub slz_⟩
set_option maxHeartbeats 1000000 in
theorem T_insertion (p : Pl) (a : PA) (b : Nat) (hq : p.Ok) (xs : List Int) (A : Option Addr) (n c : Nat) (hlen : xs.length = n) (hn : n ≤ 40) (hr : ∀ x ∈ xs, 0 ≤ x ∧ x < p.ps.length) :
    Tr Tryz.prog 207 [.slice A n c, .int .i64 0, .int .i64 n, .func (.func 118) #[] #[.pointer (some ⟨b, 0, none⟩)]] (.own A c 3 1 n (enI xs) :: ordL p a b) (fun _ : Unit => True) (fun _ => .tuple #[]) (fun _ => .own A c 3 1 n (enI (sortV (ltP p) xs)) :: ordL p a b) := by
  refine ⟨fun w0 w R hst => ?_⟩
  have h1 : sortTo (ltP p) xs 1 ++ xs.drop 1 = xs := by
    cases xs with
    | nil => rfl
    | cons x t => simp [sortTo, insV, posV]
  refine en Tryz.func207 Tryz.ntmps207 hst (h := fun F => ?_)
  refine sr ?_
  iterate 3 refine ww ?_
  refine nq ?_
  refine bk ?_
  refine lp (X := Nat) (I := fun k => 1 ≤ k ∧ (k ≤ n ∨ k = 1)) (le := fun k => [(0, .slice A n c), (1, .int .i64 0), (2, .int .i64 n), (3, .func (.func 118) #[] #[.pointer (some ⟨b, 0, none⟩)]), (8, .int .i64 k)]) (Le := fun k => .own A c 3 1 n (enI (sortTo (ltP p) xs k ++ xs.drop k)) :: (ordL p a b ++ R)) (μ := fun k => n + 1 - k) 1 ⟨Nat.le_refl _, .inr rfl⟩ sbz_ (by rw [h1]; exact SubL.refl _) (fun k hk => ?_)
  obtain ⟨hk1', hkn'⟩ := hk
  refine sq ?_
  refine sr ?_
  iterate 3 refine ww ?_
  refine nq ?_
  refine czz (fun h0 => ?_) fun h0 => ?_
  · skip
    have hkn : k < n := by simp only [decide_eq_true_eq] at h0; omega
    obtain ⟨x, hx⟩ : ∃ x, xs[k]? = some x := ⟨_, List.getElem?_eq_getElem (by omega)⟩
    have hxr := hr x (List.mem_of_getElem? hx)
    have hsl := sortTo_len (ltP p) xs k (by omega)
    rw [← mid_start hx]
    refine skp ?_
    refine q_seq ?_
    refine sq ?_
    refine bk ?_
    refine sr ?_
    iterate 2 refine ww ?_
    refine nq ?_
    refine bk ?_
    refine lp (X := Nat) (I := fun j => j ≤ k ∧ posV (ltP p) (sortTo (ltP p) xs k) x k = posV (ltP p) (sortTo (ltP p) xs k) x j) (le := fun j => [(0, .slice A n c), (1, .int .i64 0), (2, .int .i64 n), (3, .func (.func 118) #[] #[.pointer (some ⟨b, 0, none⟩)]), (8, .int .i64 k), (9, .int .i64 j)]) (Le := fun j => .own A c 3 1 n (enI (midV (ltP p) xs k j x)) :: (ordL p a b ++ R)) (μ := fun j => j) k ⟨Nat.le_refl _, rfl⟩ sbz_ slz_ (fun j hj => ?_)
    obtain ⟨hjk, hjp⟩ := hj
    iterate 2 refine sq ?_
    refine rgD (by kernel_rfl) [(1000000, .own A c 3 1 n (enI (midV (ltP p) xs k j x)))] (by repeat (first | exact HS.nil | (apply HS.keep; (repeat (first | exact At.here | apply At.there))) | (apply HS.ro; (repeat (first | exact Rds.ro | exact Rds.own | apply Rds.there))))) (h := ?_)
    refine tw 0 ?_
    refine tw 1 ?_
    refine tw 2 ?_
    refine tw 3 ?_
    refine brH (g := 21) (by exact rfl) (fun hb1 => ?_) (fun hb1 => ?_)
    · skip
      obtain ⟨i, hi⟩ : ∃ i, j = i + 1 := ⟨j - 1, by have := of_decide_eq_true hb1; omega⟩
      subst hi
      obtain ⟨y, hy⟩ : ∃ y, (sortTo (ltP p) xs k)[i]? = some y := ⟨_, List.getElem?_eq_getElem (by omega)⟩
      have hyr := hr y (List.mem_of_mem_take ((sortTo_mem (ltP p) xs y k (by omega)).1 (List.mem_of_getElem? hy)))
      have hbe := mid_below (lt := ltP p) (xs := xs) (k := k) (x := x) (by omega) (by omega) hy
      have hae := mid_at (lt := ltP p) (xs := xs) (k := k) (j := i + 1) (x := x) (by omega) (by omega)
      have hk0 : (enI (midV (ltP p) xs k (i + 1) x))[(((i + 1 : Nat) : Int) - 1).toNat]? = some [.int .i64 y] := by rw [show (((i + 1 : Nat) : Int) - 1).toNat = i by omega]; exact enI_at hbe
      have hk1 : (enI (midV (ltP p) xs k (i + 1) x))[(((i + 1 : Nat) : Int)).toNat]? = some [.int .i64 x] := enI_at hae
      refine tw 4 ?_
      refine tw 5 ?_
      refine tw 6 ?_
      refine tk 7 (hy := ix (A := A) (m := n)) (h := ?_)
      refine tk 8 (hy := ldE (A := A) (hk := hk1)) (h := ?_)
      refine tw 9 ?_
      refine tw 10 ?_
      refine tw 11 ?_
      refine tk 12 (hy := ix (A := A) (m := n)) (h := ?_)
      refine tk 13 (hy := ldE (A := A) (hk := hk0)) (h := ?_)
      refine one 14 (h := ?_)
      refine uz ?_
      refine clfT inferInstance (fi := []) (cap := [.pointer (some ⟨b, 0, none⟩)]) (by exact rfl) (by repeat (first | exact Evs.nil | (apply Evs.cons; exact rfl))) (T_dsort p a b hq x y hxr hyr) rfl (by repeat (first | exact Spl.nil | (apply Spl.cons; (repeat (first | exact At.here | apply At.there))))) (h := fun _ _ => ?_)
      refine nx (h := ?_)
      refine tw 15 ?_
      refine tw 16 ?_
      refine dn (h := ?_)
      refine q_seq ?_
      refine czz (fun h2 => ?_) fun h2 => ?_
      · skip
        have hlt : ltP p x y = true := h2
        have hp2 : posV (ltP p) (sortTo (ltP p) xs k) x k = posV (ltP p) (sortTo (ltP p) xs k) x i := by rw [hjp, posV_step hy, hlt]; rfl
        have hi1 : (((i + 1 : Nat) : Int) - 1).toNat = i := by omega
        have hk2 : ((enI (midV (ltP p) xs k (i + 1) x)).set (((i + 1 : Nat) : Int)).toNat ([Value.int .i64 x].set 0 (.int .i64 y)))[(((i + 1 : Nat) : Int) - 1).toNat]? = some [.int .i64 y] := by
          rw [hi1, List.getElem?_set_ne (by show i + 1 ≠ i; omega)]
          exact enI_at hbe
        have hsw : ((enI (midV (ltP p) xs k (i + 1) x)).set (((i + 1 : Nat) : Int)).toNat ([Value.int .i64 x].set 0 (.int .i64 y))).set (((i + 1 : Nat) : Int) - 1).toNat ([Value.int .i64 y].set 0 (.int .i64 x)) = enI (midV (ltP p) xs k i x) := by
          rw [hi1]
          show ((enI _).set (i + 1) [.int .i64 y]).set i [.int .i64 x] = _
          rw [enI_set, enI_set, mid_swap (by omega) (by omega) hy]
        refine skp ?_
        refine q_seq ?_
        refine sq ?_
        refine bk ?_
        refine WC.some_ (A := A) atz_ (by omega) (fun hAs => ?_)
        refine rgD (by kernel_rfl) [(15, .own A c 3 1 n (enI (midV (ltP p) xs k (i + 1) x)))] (by repeat (first | exact HS.nil | (apply HS.keep; (repeat (first | exact At.here | apply At.there))) | (apply HS.ro; (repeat (first | exact Rds.ro | exact Rds.own | apply Rds.there))))) (h := ?_)
        refine tw 0 ?_
        refine tw 1 ?_
        refine tw 2 ?_
        refine tw 3 ?_
        refine tw 4 ?_
        refine tw 5 ?_
        refine tw 6 ?_
        refine tw 7 ?_
        refine tk 8 (hy := ix (A := A) (m := n)) (h := ?_)
        refine tk 9 (hy := ldE (A := A) (hk := hk0)) (h := ?_)
        refine tw 10 ?_
        refine tw 11 ?_
        refine tk 12 (hy := ixS (A := A) (m := n) (hs := hAs)) (h := ?_)
        refine tk 13 (hy := ldE (A := A) (hk := hk1)) (h := ?_)
        refine tk 14 (hy := ix (A := A) (m := n)) (h := ?_)
        refine one 15 (h := ?_)
        refine stE (A := A) (hk := hk1) (h := ?_)
        refine nx (h := ?_)
        refine one 16 (h := ?_)
        refine wy (ix (A := A) (m := n)) ?_
        refine nx (h := ?_)
        refine one 17 (h := ?_)
        refine stE (A := A) (hk := hk2) (h := ?_)
        refine nx (h := ?_)
        refine dn (h := ?_)
        refine q_blk_norm ?_
        refine q_seq ?_
        refine rg ?_
        iterate 3 refine ww ?_
        refine nl ?_
        rw [hsw]
        refine rn (x := i + 1) i ⟨by omega, hp2⟩ (by omega) (by repeat (first | exact trivial | refine ⟨rfl, ?_⟩ | refine ⟨by show some (Value.int .i64 (((i + 1 : Nat) : Int) - 1)) = some (Value.int .i64 (i : Int)); congr 2; omega, ?_⟩)) slz_
      · skip
        first
          | (have hlt : ltP p x y = false := ‹_›
             have hex : posV (ltP p) (sortTo (ltP p) xs k) x k = i + 1 := by rw [hjp, posV_step hy, hlt]; rfl)
          | skip
        refine et ?_
        iterate 2 refine q_then_exit ?_
        refine q_blk_hit ?_
        refine q_blk_norm ?_
        refine q_seq ?_
        refine rg ?_
        iterate 3 refine ww ?_
        refine nl ?_
        rw [mid_end hx _ hex]
        refine rn (x := k) (k + 1) ⟨by omega, by omega⟩ (by omega) sbz_ slz_
    · skip
      obtain rfl : j = 0 := by have := of_decide_eq_false hb1; omega
      have hex : posV (ltP p) (sortTo (ltP p) xs k) x k = 0 := hjp
      refine tkS 4 (h := ?_)
      refine tkS 5 (h := ?_)
      refine tkS 6 (h := ?_)
      refine tkS 7 (h := ?_)
      refine tkS 8 (h := ?_)
      refine tkS 9 (h := ?_)
      refine tkS 10 (h := ?_)
      refine tkS 11 (h := ?_)
      refine tkS 12 (h := ?_)
      refine tkS 13 (h := ?_)
      refine tkS 14 (h := ?_)
      refine tkS 15 (h := ?_)
      refine tw 16 ?_
      refine dn (h := ?_)
      refine q_seq ?_
      refine cdF (h := ?_)
      first
        | (have hlt : ltP p x y = false := ‹_›
           have hex : posV (ltP p) (sortTo (ltP p) xs k) x k = i + 1 := by rw [hjp, posV_step hy, hlt]; rfl)
        | skip
      refine et ?_
      iterate 2 refine q_then_exit ?_
      refine q_blk_hit ?_
      refine q_blk_norm ?_
      refine q_seq ?_
      refine rg ?_
      iterate 3 refine ww ?_
      refine nl ?_
      rw [mid_end hx _ hex]
      refine rn (x := k) (k + 1) ⟨by omega, by omega⟩ (by omega) sbz_ slz_
  · skip
    have hkn : sortTo (ltP p) xs k ++ xs.drop k = sortV (ltP p) xs := by
      have hkn : n ≤ k := by simp only [decide_eq_false_iff_not] at h0; omega
      rcases (by omega : k = n ∨ (n = 0 ∧ k = 1)) with rfl | ⟨hn0, rfl⟩
      · rw [← hlen, List.drop_length, List.append_nil]; rfl
      · subst hn0
        rw [List.eq_nil_of_length_eq_zero hlen]; rfl
    rw [hkn]
    refine et ?_
    iterate 2 refine q_then_exit ?_
    refine q_blk_hit ?_
    refine q_end (hR := ?_)
    exact fun w hS => ⟨(), trivial, rfl, hS.sub slz_⟩
theorem wrap_u8 {a : Int} (h : 0 ≤ a ∧ a ≤ 255) : IntKind.u8.wrap a = a := by
 simp [IntKind.wrap, IntKind.bits, IntKind.signed]; omega
theorem wrap_u64 {a : Int} (h : 0 ≤ a ∧ a ≤ 1000) : IntKind.u64.wrap a = a := by
 simp [IntKind.wrap, IntKind.bits, IntKind.signed]; omega
theorem C_Len64 (a : Int) (ha : 0 ≤ a ∧ a ≤ 40) (w : World) : CR Tryz.prog 163 [.int .u64 a] w (fun x : Int => 0 ≤ x ∧ x ≤ 255) (fun x => .int .i64 x) (fun _ => []) := by
 refine ⟨en Tryz.func163 Tryz.ntmps163 (St.init w) (h := fun F => ?_)⟩
 refine sr ?_
 refine ww ?_
 refine nq ?_
 refine sq ?_
 refine sr ?_
 refine ww ?_
 refine wy ((Yd.fl (geq) (by refine decide_eq_false ?_; omega))) ?_
 refine nq ?_
 refine cdF (h := ?_)
 refine skp ?_
 refine q_seq ?_
 refine sq ?_
 refine sr ?_
 refine ww ?_
 refine wy ((Yd.fl (geq) (by refine decide_eq_false ?_; omega))) ?_
 refine nq ?_
 refine cdF (h := ?_)
 refine skp ?_
 refine q_seq ?_
 refine sq ?_
 refine sr ?_
 refine ww ?_
 refine wy ((Yd.fl (geq) (by refine decide_eq_false ?_; omega))) ?_
 refine nq ?_
 refine cdF (h := ?_)
 refine skp ?_
 refine q_seq ?_
 refine sr ?_
 iterate 2 refine ww ?_
 refine wy (cvI (hw := wrap_u8 (by omega))) ?_
 refine WL.byte (i := a) (by omega) (h := fun bt hbt => ?_)
 refine wy (cvI (hw := IntWalk.i64_in _ (by omega))) ?_
 refine wy (addI (hb := by omega)) ?_
 refine ww ?_
 refine nq ?_
 refine rtn ?_
 refine q_ret (hR := ?_)
 exact fun w hS => ⟨_, by omega, rfl, hS.sub slz_⟩
theorem C_Len (a : Int) (ha : 0 ≤ a ∧ a ≤ 40) (w : World) : CR Tryz.prog 103 [.int .u64 a] w (fun x : Int => 0 ≤ x ∧ x ≤ 255) (fun x => .int .i64 x) (fun _ => []) := by
 refine ⟨en Tryz.func103 Tryz.ntmps103 (St.init w) (h := fun F => ?_)⟩
 refine sr ?_
 refine ww ?_
 refine nq ?_
 refine sq ?_
 refine cdF (h := ?_)
 refine skp ?_
 refine q_seq ?_
 refine sr ?_
 refine ww ?_
 refine cl (hc := fun w hS => C_Len64 a ha w) (h := fun x hx => ?_)
 refine ww ?_
 refine nq ?_
 refine rtn ?_
 refine q_ret (hR := ?_)
 exact fun w hS => ⟨x, hx, rfl, hS.sub slz_⟩
theorem T_pdq (p : Pl) (a : PA) (b : Nat) (hq : p.Ok) (xs : List Int) (A : Option Addr) (n c : Nat) (lim : Int) (hlen : xs.length = n) (hn : n ≤ 12) (hr : ∀ x ∈ xs, 0 ≤ x ∧ x < p.ps.length) :
  Tr Tryz.prog 180 [.slice A n c, .int .i64 0, .int .i64 n, .int .i64 lim, .func (.func 118) #[] #[.pointer (some ⟨b, 0, none⟩)]] (.own A c 3 1 n (enI xs) :: ordL p a b) (fun _ : Unit => True) (fun _ => .tuple #[]) (fun _ => .own A c 3 1 n (enI (sortV (ltP p) xs)) :: ordL p a b) := by
 refine ⟨fun w0 w R hst => ?_⟩
 refine en Tryz.func180 Tryz.ntmps180 hst (h := fun F => ?_)
 refine sr ?_
 refine ww ?_
 refine nr ?_
 refine ww ?_
 refine nq ?_
 refine bk ?_
 refine lp (X := Unit) (I := fun _ => True) (le := fun _ => [(0, .slice A n c), (1, .int .i64 0), (2, .int .i64 n), (4, .func (.func 118) #[] #[.pointer (some ⟨b, 0, none⟩)])]) (Le := fun _ => .own A c 3 1 n (enI xs) :: (ordL p a b ++ R)) (μ := fun _ => 0) () trivial sbz_ (SubL.refl _) (fun _ _ => ?_)
 refine bk ?_
 refine sr ?_
 iterate 2 refine ww ?_
 refine wy (subI (hb := by omega)) ?_
 rw [Int.sub_zero]
 refine ww ?_
 refine nq ?_
 refine sq ?_
 refine sr ?_
 refine ww ?_
 refine wy ((Yd.tr (leq) (by refine decide_eq_true ?_; omega))) ?_
 refine nq ?_
 refine cdT (h := ?_)
 refine sr ?_
 iterate 4 refine ww ?_
 refine clT (hc := T_insertion p a b hq xs A n c hlen (by omega) hr) (hs := (by repeat (first | exact Spl.nil | (apply Spl.cons; (repeat (first | exact At.here | apply At.there)))))) (h := fun _ _ => ?_)
 refine nq ?_
 refine rtn ?_
 refine q_then_ret ?_
 refine q_blk_ret ?_
 refine q_then_ret ?_
 refine q_blk_ret ?_
 refine q_ret (hR := ?_)
 exact fun w hS => ⟨(), trivial, rfl, hS⟩
theorem T_SortFunc (p : Pl) (a : PA) (b : Nat) (hq : p.Ok) (xs : List Int) (A : Option Addr) (n c : Nat) (hlen : xs.length = n) (hn : n ≤ 12) (hr : ∀ x ∈ xs, 0 ≤ x ∧ x < p.ps.length) :
  Tr Tryz.prog 117 [.slice A n c, .func (.func 118) #[] #[.pointer (some ⟨b, 0, none⟩)]] (.own A c 3 1 n (enI xs) :: ordL p a b) (fun _ : Unit => True) (fun _ => .tuple #[]) (fun _ => .own A c 3 1 n (enI (sortV (ltP p) xs)) :: ordL p a b) := by
 refine ⟨fun w0 w R hst => ?_⟩
 refine en Tryz.func117 Tryz.ntmps117 hst (h := fun F => ?_)
 refine sr ?_
 iterate 3 refine ww ?_
 refine nq ?_
 refine rg ?_
 iterate 3 refine ww ?_
 refine wy (cvI (hw := wrap_u64 (by omega))) ?_
 refine cl (hc := fun w hS => C_Len n (by omega) w) (h := fun x hx => ?_)
 refine ww ?_
 refine clT (hc := T_pdq p a b hq xs A n c x hlen hn hr) (hs := (by repeat (first | exact Spl.nil | (apply Spl.cons; (repeat (first | exact At.here | apply At.there)))))) (h := fun _ _ => ?_)
 refine nl ?_
 refine q_end (hR := ?_)
 exact fun w hS => ⟨(), trivial, rfl, hS⟩

end Go.Proofs.YthkliiifllhacaaGreat

namespace Go.Proofs.YthkliiifllhacaaGreat
open Go Go.RowKit

def idxs (n : Nat) : List Int := (List.range n).map fun i : Nat => (i : Int)
theorem idxs_succ (n : Nat) : idxs (n + 1) = idxs n ++ [(n : Int)] := by simp [idxs, List.range_succ]
theorem idxs_len (n : Nat) : (idxs n).length = n := by simp [idxs]
theorem idxs_mem {n : Nat} {x : Int} : x ∈ idxs n ↔ 0 ≤ x ∧ x < n := by
 simp only [idxs, List.mem_map, List.mem_range]
 constructor
 ·
  rintro ⟨i, hi, rfl⟩; omega
 ·
  intro h; exact ⟨x.toNat, by omega, by omega⟩
def rkV (p : Pl) : List Int := -1 :: sortV (ltP p) (idxs p.ps.length)
theorem rk_len (p : Pl) : (rkV p).length = p.ps.length + 1 := by
 rw [rkV, List.length_cons, sortV, sortTo_len _ _ _ (Nat.le_refl _), idxs_len]
theorem rk_mem {p : Pl} {x : Int} : x ∈ rkV p ↔ InP p x := by
 rw [rkV, List.mem_cons, sortV_mem, idxs_mem]; rfl
def drawsV (p : Pl) : List (List Int) := moreV p (rkV p) p.size.toNat [] (byesV p)
abbrev itL (p : Pl) (a : PA) (bp br : Nat) (rA : Option Addr) (rc : Nat) : List Ent := [.blk bp 37 (p.cells a), .blk br 26 [.slice rA (p.ps.length + 1) rc], .own rA rc 3 1 (p.ps.length + 1) (enI (rkV p)), .ro a.pA 3 p.ps.length (encPs p.ps), .ro a.lA 1 p.lots.length (enI p.lots)]
abbrev moL (lb bp by_ br bm : Nat) : List Ent := [.blk by_ 209 [.func (.yield lb) #[] #[]], .blk bm 210 [.func (.func 120) #[] #[.pointer (some ⟨bp, 0, none⟩), .pointer (some ⟨by_, 0, none⟩), .pointer (some ⟨br, 0, none⟩), .pointer (some ⟨bm, 0, none⟩)]]]
structure MRD (Y : Type) where
 (r : Bool) (y : Y) (sp : List Value)
abbrev Rounds {Y : Type} (p : Pl) (D : List (List Int)) (ψ : Nat → Y → Prop) (J : Nat → Y → List Ent) (ψx : Y → Prop) (Jx : Y → List Ent) (Lp : List Ent) (w0 : World) (lb : Nat) : Prop :=
 ∀ (R : List Ent) (k : Nat) (x : Option Addr × Nat) (y : Y) (w : World), k < D.length → True → ψ k y → St w0 w ([.own x.1 x.2 3 1 p.size.toNat (enI (D.getD k []))] ++ (Lp ++ (J k y ++ R))) → RoundOf Tryz.prog lb [.slice x.1 p.size.toNat x.2] w (RR ψ (fun k y => J k y ++ R) ψx (fun y => Jx y ++ R) Lp w0 k)
abbrev moreArgs (g : Nat) (n S : Nat) (byes : Int) (bp by_ br bm : Nat) : List Value := [.slice (some ⟨g, 0, none⟩) n S, .int .i64 byes] ++ [.pointer (some ⟨bp, 0, none⟩), .pointer (some ⟨by_, 0, none⟩), .pointer (some ⟨br, 0, none⟩), .pointer (some ⟨bm, 0, none⟩)]
abbrev MoreOk {Y : Type} (p : Pl) (D : List (List Int)) (ψ : Nat → Y → Prop) (J : Nat → Y → List Ent) (ψx : Y → Prop) (Jx : Y → List Ent) (Lp : List Ent) (w0 : World) (lb g bp by_ br bm : Nat) (f : Nat) : Prop :=
 ∀ (l : List Int) (byes : Int) (sp : List Value) (k0 : Nat) (y : Y) (w : World), (l.length : Int) + f = p.size → sp.length = f → (0 ≤ byes ∧ byes ≤ 100) → (∀ x ∈ l, InP p x) →
  (∀ (j : Nat) (v : List Int), (moreV p (rkV p) f l byes)[j]? = some v → D[k0 + j]? = some v) → ψ k0 y → St w0 w (.blk g 3 (l.map vI ++ sp) :: (moL lb bp by_ br bm ++ (Lp ++ J k0 y))) →
  Calls Tryz.prog 120 (moreArgs g l.length p.size.toNat byes bp by_ br bm).toArray w fun e w' => ∃ z : MRD Y, (z.sp.length = f ∧ cond z.r (ψ (k0 + (moreV p (rkV p) f l byes).length) z.y) (ψx z.y)) ∧ e = .returned (.bool z.r) ∧
   St w0 w' (.blk g 3 (l.map vI ++ z.sp) :: (moL lb bp by_ br bm ++ (Lp ++ cond z.r (J (k0 + (moreV p (rkV p) f l byes).length) z.y) (Jx z.y))))
theorem At.left {e : Ent} {A M : List Ent} (h : At A e M) (B : List Ent) : At (A ++ B) e (M ++ B) := by
 induction h with
 | here => exact .here
 | there _ ih => exact .there ih
theorem SubL.app_nil : ∀ (A : List Ent), SubL A (A ++ [])
 | A => by rw [List.append_nil]; exact SubL.refl _
theorem SubL.rot : ∀ (R A : List Ent), SubL (A ++ R) (R ++ A)
 | R, [] => SubL.app_nil R
 | R, a :: A => SubL.cons (At.app R A) (SubL.rot R A)
theorem SubL.back (R A B : List Ent) : SubL (A ++ (B ++ R)) (R ++ (A ++ B)) := by
 rw [← List.append_assoc]; exact SubL.rot R (A ++ B)
theorem SubL.front (R A B : List Ent) : SubL (R ++ (A ++ B)) (A ++ (B ++ R)) := by
 rw [← List.append_assoc A]; exact SubL.rot (A ++ B) R
section
variable {Y : Type} (p : Pl) (a : PA) (hq : p.Ok) (hpn : p.ps.length ≤ 9223372036854775807) (hln : p.lots.length ≤ 9223372036854775807) (hpc : p.ps.length ≤ a.pc) (D : List (List Int)) (ψ : Nat → Y → Prop) (J : Nat → Y → List Ent) (ψx : Y → Prop) (Jx : Y → List Ent) (w0 : World) (lb g bp by_ br bm : Nat) (rA : Option Addr) (rc : Nat)
set_option maxHeartbeats 2000000 in
include hq in
theorem more_zero (hround : Rounds p D ψ J ψx Jx (itL p a bp br rA rc) w0 lb) : MoreOk p D ψ J ψx Jx (itL p a bp br rA rc) w0 lb g bp by_ br bm 0 := by
 intro l byes sp k0 y w hlen hspl hby hin hD hy hst
 have hz := hq.z
 obtain rfl : sp = [] := List.eq_nil_of_length_eq_zero hspl
 have hB : ∀ w, (Ent.blk g 3 (l.map vI ++ [])).ok w → Rd w (some ⟨g, 0, none⟩) 1 l.length (enI l) := fun w h => rd_blk (pre := []) (sp := []) rfl (by omega) w h
 have hSl : p.size.toNat = l.length := by omega
 have hDl : D[k0]? = some l := hD 0 l rfl
 have hDk : D.getD k0 [] = l := by rw [List.getD_eq_getElem?_getD, hDl]; rfl
 have hkN : k0 < D.length := (List.getElem?_eq_some_iff.1 hDl).1
 refine enM (vs := moreArgs g l.length p.size.toNat byes bp by_ br bm) Tryz.func120 Tryz.ntmps120 hst (h := ?_)
 refine sr ?_
 refine ww ?_
 refine nr ?_
 iterate 3 refine ww ?_
 refine nq ?_
 refine sq ?_
 refine sr ?_
 iterate 4 refine ww ?_
 refine nq ?_
 refine czz (fun h0 => ?_) fun h0 => ?_
 ·
  refine sq ?_
  refine rgD (by kernel_rfl) [(1000000, .blk by_ 209 [.func (.yield lb) #[] #[]])] (by repeat (first | exact HS.nil | (apply HS.keep; (repeat (first | exact At.here | apply At.there))) | (apply HS.ro; (repeat (first | exact Rds.ro | exact Rds.own | apply Rds.there))))) (h := ?_)
  refine tw 0 ?_
  refine tw 1 ?_
  refine one 2 (h := ?_)
  refine cl (hc := fun w hS => C_CloneInts (some ⟨g, 0, none⟩) l.length p.size.toNat (enI l) w (hS.get (Rds.any hB)) (by omega)) (h := fun x0 _ => ?_)
  refine nx (h := ?_)
  refine one 3 (h := ?_)
  refine yl (lb := lb) (Z := Bool × Y) (Φ := fun r => cond r.1 (ψ (k0 + 1) r.2) (ψx r.2)) (val := fun r => .bool r.1) (post := fun r => .blk g 3 (l.map vI ++ []) :: (moL lb bp by_ br bm ++ (itL p a bp br rA rc ++ cond r.1 (J (k0 + 1) r.2) (Jx r.2)))) (by exact rfl) (by repeat (first | exact Evs.nil | (apply Evs.cons; exact rfl))) rfl (fun w hS => ?_) (fun r hr => ?_)
  ·
   have hround := hround (.blk g 3 (l.map vI ++ []) :: moL lb bp by_ br bm) k0 x0 y w hkN trivial hy
   rw [hDk, hSl] at hround
   obtain ⟨fn, tmps, asg, bo, hy2, hR⟩ := hround (hS.sub (SubL.cons .here (SubL.back (.blk g 3 (l.map vI ++ []) :: moL lb bp by_ br bm) _ _)))
   refine ⟨fn, tmps, asg, bo, hy2, hR.mono fun e w' he => ?_⟩
   rcases he with ⟨rfl, y, hy, hs⟩ | ⟨rfl, y, hy, hs⟩
   ·
    exact ⟨(true, y), hy, rfl, hs.sub (SubL.front (.blk g 3 (l.map vI ++ []) :: moL lb bp by_ br bm) _ _)⟩
   ·
    exact ⟨(false, y), hy, rfl, hs.sub (SubL.front (.blk g 3 (l.map vI ++ []) :: moL lb bp by_ br bm) _ _)⟩
  refine nx (h := ?_)
  refine tw 4 ?_
  refine dn (h := ?_)
  refine q_seq ?_
  refine rtn ?_
  refine q_then_ret ?_
  refine q_retM0 (hR := ?_)
  obtain ⟨rb, ry⟩ := r
  exact fun w hS => ⟨⟨rb, ry, []⟩, ⟨rfl, hr⟩, rfl, hS⟩
 ·
  exfalso
  simp only [decide_eq_false_iff_not] at h0
  omega
structure MoZ (Y : Type) where
 (i : Nat) (y : Y) (sp : List Value)
def stepV (p : Pl) (f : Nat) (l : List Int) (byes n : Int) : List (List Int) := bif skipV p l byes n then [] else moreV p (rkV p) f (l ++ [n]) (leftB byes n)
def cntVD (p : Pl) (f : Nat) (l : List Int) (byes : Int) (i : Nat) : Nat := (((rkV p).take i).flatMap (stepV p f l byes)).length
omit Y in
theorem cnt_succ {f : Nat} {l : List Int} {byes n : Int} {i : Nat} (h : (rkV p)[i]? = some n) : cntVD p f l byes (i + 1) = cntVD p f l byes i + (stepV p f l byes n).length := by
 unfold cntVD
 rw [List.take_add_one, h, List.flatMap_append, List.length_append]
 simp
omit Y in
theorem more_at {f : Nat} {l : List Int} {byes n : Int} {i : Nat} (h : (rkV p)[i]? = some n) {j : Nat} {v : List Int} (hj : (stepV p f l byes n)[j]? = some v) : (moreV p (rkV p) (f + 1) l byes)[cntVD p f l byes i + j]? = some v := by
 have hi := (List.getElem?_eq_some_iff.1 h).1
 have hs : rkV p = (rkV p).take i ++ n :: (rkV p).drop (i + 1) := by
  have hd := List.drop_eq_getElem_cons hi
  rw [(List.getElem?_eq_some_iff.1 h).2] at hd
  rw [← hd, List.take_append_drop]
 have hm : moreV p (rkV p) (f + 1) l byes = (rkV p).flatMap (stepV p f l byes) := rfl
 rw [hm]
 conv => lhs; rw [hs]
 rw [List.flatMap_append, List.flatMap_cons, List.getElem?_append_right (by unfold cntVD; omega)]
 have e : cntVD p f l byes i + j - (((rkV p).take i).flatMap (stepV p f l byes)).length = j := by unfold cntVD; omega
 rw [e, List.getElem?_append_left (List.getElem?_eq_some_iff.1 hj).1]
 exact hj
set_option maxRecDepth 100000 in
set_option maxHeartbeats 4000000 in
include hq hpn hln hpc in
theorem more_succ (f : Nat) (ih : MoreOk p D ψ J ψx Jx (itL p a bp br rA rc) w0 lb g bp by_ br bm f) : MoreOk p D ψ J ψx Jx (itL p a bp br rA rc) w0 lb g bp by_ br bm (f + 1) := by
 intro l byes sp k0 y w hlen hspl hby hin hD hy hst
 have hz := hq.z
 have hqn := hq.n
 have hrl := rk_len p
 have hB : ∀ sp : List Value, ∀ w, (Ent.blk g 3 (l.map vI ++ sp)).ok w → Rd w (some ⟨g, 0, none⟩) 1 l.length (enI l) := fun sp w h => rd_blk (pre := []) (sp := sp) rfl (by omega) w h
 refine enM (vs := moreArgs g l.length p.size.toNat byes bp by_ br bm) Tryz.func120 Tryz.ntmps120 hst (h := ?_)
 refine sr ?_
 refine ww ?_
 refine nr ?_
 iterate 3 refine ww ?_
 refine nq ?_
 refine sq ?_
 refine sr ?_
 iterate 4 refine ww ?_
 refine nq ?_
 refine czz (fun h0 => ?_) fun h0 => ?_
 ·
  exfalso
  simp only [decide_eq_true_eq] at h0
  omega
 ·
  refine skp ?_
  refine q_seq ?_
  refine sq ?_
  refine sr ?_
  iterate 3 refine ww ?_
  refine nq ?_
  refine bk ?_
  refine lp (X := MoZ Y) (I := fun z => z.i ≤ (rkV p).length ∧ z.sp.length = f + 1 ∧ ψ (k0 + cntVD p f l byes z.i) z.y) (le := fun z => [(0, .slice (some ⟨g, 0, none⟩) l.length p.size.toNat), (1, .int .i64 byes), (2, .pointer (some ⟨bp, 0, none⟩)), (3, .pointer (some ⟨by_, 0, none⟩)), (4, .pointer (some ⟨br, 0, none⟩)), (5, .pointer (some ⟨bm, 0, none⟩)), (9, .int .i64 l.length), (23, .slice rA (p.ps.length + 1) rc), (24, .int .i64 ((rkV p).length : Int)), (25, .int .i64 z.i)]) (Le := fun z => .blk g 3 (l.map vI ++ z.sp) :: (moL lb bp by_ br bm ++ (itL p a bp br rA rc ++ J (k0 + cntVD p f l byes z.i) z.y))) (μ := fun z => (rkV p).length - z.i) ⟨0, y, sp⟩ ⟨Nat.zero_le _, hspl, hy⟩ (by
   rw [hrl]
   repeat (first | exact trivial | refine ⟨rfl, ?_⟩)) (SubL.refl _) (fun z hz => ?_)
  obtain ⟨hz1, hz2, hz3⟩ := hz
  refine sr ?_
  refine ww ?_
  refine nq ?_
  refine sq ?_
  refine czz (fun h1 => ?_) fun h1 => ?_
  ·
   have hkn : z.i < (rkV p).length := by simp only [decide_eq_true_eq] at h1; omega
   obtain ⟨n, hn1⟩ : ∃ n, (rkV p)[z.i]? = some n := ⟨_, List.getElem?_eq_getElem hkn⟩
   have hne := enI_at hn1
   have hnr := rk_mem.1 (List.mem_of_getElem? hn1)
   have hcs := cnt_succ p (f := f) (l := l) (byes := byes) hn1
   refine skp ?_
   refine q_seq ?_
   refine sq ?_
   refine bk ?_
   refine sr ?_
   refine wy (ix (A := rA) (m := p.ps.length + 1)) ?_
   refine wy (ldE (A := rA) (hk := hne)) ?_
   refine ww ?_
   refine nr ?_
   iterate 2 refine ww ?_
   refine nq ?_
   refine ct (X := Unit) (fun _ => True) (fun _ => [(0, .slice (some ⟨g, 0, none⟩) l.length p.size.toNat), (1, .int .i64 byes), (2, .pointer (some ⟨bp, 0, none⟩)), (3, .pointer (some ⟨by_, 0, none⟩)), (4, .pointer (some ⟨br, 0, none⟩)), (5, .pointer (some ⟨bm, 0, none⟩)), (9, .int .i64 l.length), (11, .int .i64 n), (12, .int .i64 (leftB byes n)), (23, .slice rA (p.ps.length + 1) rc), (24, .int .i64 ((rkV p).length : Int)), (25, .int .i64 z.i)]) (fun _ => .blk g 3 (l.map vI ++ z.sp) :: (moL lb bp by_ br bm ++ (itL p a bp br rA rc ++ J (k0 + cntVD p f l byes z.i) z.y))) (h1 := ?_) (h2 := ?_)
   ·
    refine sr ?_
    iterate 2 refine ww ?_
    refine nq ?_
    refine czz (fun h2 => ?_) fun h2 => ?_
    ·
     have hlf : leftB byes n = byes - 1 := by rw [leftB, h2]; rfl
     refine rg ?_
     iterate 3 refine ww ?_
     refine nl ?_
     exact ctn () trivial (by rw [hlf]; repeat (first | exact trivial | refine ⟨rfl, ?_⟩)) (SubL.refl _)
    ·
     have hlf : leftB byes n = byes := by rw [leftB, h2]; rfl
     refine skp ?_
     exact ctn () trivial (by rw [hlf]; repeat (first | exact trivial | refine ⟨rfl, ?_⟩)) (SubL.refl _)
   rintro ⟨⟩ -
   refine sq ?_
   refine ct (X := Bool) (fun s => s = skipV p l byes n) (fun s => [(0, .slice (some ⟨g, 0, none⟩) l.length p.size.toNat), (1, .int .i64 byes), (2, .pointer (some ⟨bp, 0, none⟩)), (3, .pointer (some ⟨by_, 0, none⟩)), (4, .pointer (some ⟨br, 0, none⟩)), (5, .pointer (some ⟨bm, 0, none⟩)), (9, .int .i64 l.length), (11, .int .i64 n), (12, .int .i64 (leftB byes n)), (23, .slice rA (p.ps.length + 1) rc), (24, .int .i64 ((rkV p).length : Int)), (25, .int .i64 z.i), (67, .bool s)]) (fun _ => .blk g 3 (l.map vI ++ z.sp) :: (moL lb bp by_ br bm ++ (itL p a bp br rA rc ++ J (k0 + cntVD p f l byes z.i) z.y))) (h1 := ?_) (h2 := ?_)
   ·
    refine rgD (by kernel_rfl) [(1000000, .blk bp 37 (p.cells a)), (1000000, .blk g 3 (l.map vI ++ z.sp))] (by repeat (first | exact HS.nil | (apply HS.keep; (repeat (first | exact At.here | apply At.there))) | (apply HS.ro; (repeat (first | exact Rds.ro | exact Rds.own | apply Rds.there))))) (h := ?_)
    refine tw 0 ?_
    refine tw 1 ?_
    refine tw 2 ?_
    refine brH (g := 36) (by exact rfl) (fun hb3 => ?_) (fun hb3 => ?_)
    ·
     refine tkS 3 (h := ?_)
     refine tkS 4 (h := ?_)
     refine tkS 5 (h := ?_)
     refine tkS 6 (h := ?_)
     refine tkS 7 (h := ?_)
     refine tkS 8 (h := ?_)
     refine tkS 9 (h := ?_)
     refine tw 10 ?_
     refine tw 11 ?_
     refine tkS 12 (h := ?_)
     refine tkS 13 (h := ?_)
     refine tkS 14 (h := ?_)
     refine tkS 15 (h := ?_)
     refine tkS 16 (h := ?_)
     refine tw 17 ?_
     refine tw 18 ?_
     refine tkS 19 (h := ?_)
     refine tkS 20 (h := ?_)
     refine tkS 21 (h := ?_)
     refine tkS 22 (h := ?_)
     refine tkS 23 (h := ?_)
     refine tkS 24 (h := ?_)
     refine tkS 25 (h := ?_)
     refine tkS 26 (h := ?_)
     refine tkS 27 (h := ?_)
     refine tkS 28 (h := ?_)
     refine tkS 29 (h := ?_)
     refine tkS 30 (h := ?_)
     refine tkS 31 (h := ?_)
     refine tkS 32 (h := ?_)
     refine tw 33 ?_
     refine dn (h := ?_)
     refine ctnL _ sbz_ (SubL.refl _) ?_
     simp only [skipV, hasV, *]
     try simp
    ·
     refine tw 3 ?_
     refine tw 4 ?_
     refine tw 5 ?_
     refine brH (g := 39) (by exact rfl) (fun hb4 => ?_) (fun hb4 => ?_)
     ·
      refine tw 6 ?_
      refine tw 7 ?_
      refine one 8 (h := ?_)
      refine uz ?_
      refine cl0 (hc := fun w hS => C_slices_Contains l n (some ⟨g, 0, none⟩) l.length p.size.toNat w (hS.get (Rds.any (hB z.sp))) (by omega)) (h := ?_)
      refine nx (h := ?_)
      refine tw 9 ?_
      refine tw 10 ?_
      refine tw 11 ?_
      refine brH (g := 45) (by exact rfl) (fun hb5 => ?_) (fun hb5 => ?_)
      ·
       refine tkS 12 (h := ?_)
       refine tkS 13 (h := ?_)
       refine tkS 14 (h := ?_)
       refine tkS 15 (h := ?_)
       refine tkS 16 (h := ?_)
       refine tw 17 ?_
       refine tw 18 ?_
       refine tkS 19 (h := ?_)
       refine tkS 20 (h := ?_)
       refine tkS 21 (h := ?_)
       refine tkS 22 (h := ?_)
       refine tkS 23 (h := ?_)
       refine tkS 24 (h := ?_)
       refine tkS 25 (h := ?_)
       refine tkS 26 (h := ?_)
       refine tkS 27 (h := ?_)
       refine tkS 28 (h := ?_)
       refine tkS 29 (h := ?_)
       refine tkS 30 (h := ?_)
       refine tkS 31 (h := ?_)
       refine tkS 32 (h := ?_)
       refine tw 33 ?_
       refine dn (h := ?_)
       refine ctnL _ sbz_ (SubL.refl _) ?_
       simp only [skipV, hasV, *]
       try simp
      ·
       refine tw 12 ?_
       refine tw 13 ?_
       refine tw 14 ?_
       refine one 15 (h := ?_)
       refine uz ?_
       refine cl0 (hc := fun w hS => C_seat p a l.length n hq w ⟨hS.get (by repeat (first | exact Rds.ro | apply Rds.there)), hS.get (by repeat (first | exact Rds.ro | apply Rds.there)), hpn, hln, hpc⟩) (h := ?_)
       refine nx (h := ?_)
       refine tw 16 ?_
       refine tw 17 ?_
       refine tw 18 ?_
       refine brH (g := 52) (by exact rfl) (fun hb6 => ?_) (fun hb6 => ?_)
       ·
        refine tkS 19 (h := ?_)
        refine tkS 20 (h := ?_)
        refine tkS 21 (h := ?_)
        refine tkS 22 (h := ?_)
        refine tkS 23 (h := ?_)
        refine tkS 24 (h := ?_)
        refine tkS 25 (h := ?_)
        refine tkS 26 (h := ?_)
        refine tkS 27 (h := ?_)
        refine tkS 28 (h := ?_)
        refine tkS 29 (h := ?_)
        refine tkS 30 (h := ?_)
        refine tkS 31 (h := ?_)
        refine tkS 32 (h := ?_)
        refine tw 33 ?_
        refine dn (h := ?_)
        refine ctnL _ sbz_ (SubL.refl _) ?_
        simp only [skipV, hasV, *]
        try simp
       ·
        refine tw 19 ?_
        refine tw 20 ?_
        refine tw 21 ?_
        refine tw 22 ?_
        refine brH (g := 56) (by exact rfl) (fun hb7 => ?_) (fun hb7 => ?_)
        ·
         have hk1 : (l.length : Int) % 2 = 1 := of_decide_eq_true hb7
         obtain ⟨x1, hx1⟩ : ∃ x, l[l.length - 1]? = some x := ⟨_, List.getElem?_eq_getElem (by omega)⟩
         have hx1r := hin x1 (List.mem_of_getElem? hx1)
         have hlast : lastV l = x1 := by rw [lastV, List.getLast?_eq_getElem?, hx1]; rfl
         have hx1e : (enI l)[((l.length : Int) - 1).toNat]? = some [.int .i64 x1] := by rw [show ((l.length : Int) - 1).toNat = l.length - 1 by omega]; exact enI_at hx1
         refine tw 23 ?_
         refine tw 24 ?_
         refine tw 25 ?_
         refine tw 26 ?_
         refine tk 27 (hy := ix (A := some ⟨g, 0, none⟩) (m := l.length) (hr := (by repeat (first | exact Rds.any (hB z.sp) | apply Rds.there)))) (h := ?_)
         refine tk 28 (hy := ldE (A := some ⟨g, 0, none⟩) (hr := (by repeat (first | exact Rds.any (hB z.sp) | apply Rds.there))) (hk := hx1e)) (h := ?_)
         refine tw 29 ?_
         refine one 30 (h := ?_)
         refine uz ?_
         refine cl0 (hc := fun w hS => C_match p a x1 n hq hx1r hnr w ⟨hS.get (by repeat (first | exact Rds.ro | apply Rds.there)), hS.get (by repeat (first | exact Rds.ro | apply Rds.there)), hpn, hln, hpc⟩) (h := ?_)
         rw [← hlast]
         refine nx (h := ?_)
         refine tw 31 ?_
         refine tw 32 ?_
         refine tw 33 ?_
         refine dn (h := ?_)
         refine ctnL _ sbz_ (SubL.refl _) ?_
         simp only [skipV, hasV, *]
         try simp
        ·
         refine tkS 23 (h := ?_)
         refine tkS 24 (h := ?_)
         refine tkS 25 (h := ?_)
         refine tkS 26 (h := ?_)
         refine tkS 27 (h := ?_)
         refine tkS 28 (h := ?_)
         refine tkS 29 (h := ?_)
         refine tkS 30 (h := ?_)
         refine tkS 31 (h := ?_)
         refine tw 32 ?_
         refine tw 33 ?_
         refine dn (h := ?_)
         refine ctnL _ sbz_ (SubL.refl _) ?_
         simp only [skipV, hasV, *]
         try simp
     ·
      refine tkS 6 (h := ?_)
      refine tkS 7 (h := ?_)
      refine tkS 8 (h := ?_)
      refine tw 9 ?_
      refine tw 10 ?_
      refine tw 11 ?_
      refine tw 12 ?_
      refine tw 13 ?_
      refine tw 14 ?_
      refine one 15 (h := ?_)
      refine uz ?_
      refine cl0 (hc := fun w hS => C_seat p a l.length n hq w ⟨hS.get (by repeat (first | exact Rds.ro | apply Rds.there)), hS.get (by repeat (first | exact Rds.ro | apply Rds.there)), hpn, hln, hpc⟩) (h := ?_)
      refine nx (h := ?_)
      refine tw 16 ?_
      refine tw 17 ?_
      refine tw 18 ?_
      refine brH (g := 52) (by exact rfl) (fun hb8 => ?_) (fun hb8 => ?_)
      ·
       refine tkS 19 (h := ?_)
       refine tkS 20 (h := ?_)
       refine tkS 21 (h := ?_)
       refine tkS 22 (h := ?_)
       refine tkS 23 (h := ?_)
       refine tkS 24 (h := ?_)
       refine tkS 25 (h := ?_)
       refine tkS 26 (h := ?_)
       refine tkS 27 (h := ?_)
       refine tkS 28 (h := ?_)
       refine tkS 29 (h := ?_)
       refine tkS 30 (h := ?_)
       refine tkS 31 (h := ?_)
       refine tkS 32 (h := ?_)
       refine tw 33 ?_
       refine dn (h := ?_)
       refine ctnL _ sbz_ (SubL.refl _) ?_
       simp only [skipV, hasV, *]
       try simp
      ·
       refine tw 19 ?_
       refine tw 20 ?_
       refine tw 21 ?_
       refine tw 22 ?_
       refine brH (g := 56) (by exact rfl) (fun hb9 => ?_) (fun hb9 => ?_)
       ·
        have hk1 : (l.length : Int) % 2 = 1 := of_decide_eq_true hb9
        obtain ⟨x1, hx1⟩ : ∃ x, l[l.length - 1]? = some x := ⟨_, List.getElem?_eq_getElem (by omega)⟩
        have hx1r := hin x1 (List.mem_of_getElem? hx1)
        have hlast : lastV l = x1 := by rw [lastV, List.getLast?_eq_getElem?, hx1]; rfl
        have hx1e : (enI l)[((l.length : Int) - 1).toNat]? = some [.int .i64 x1] := by rw [show ((l.length : Int) - 1).toNat = l.length - 1 by omega]; exact enI_at hx1
        refine tw 23 ?_
        refine tw 24 ?_
        refine tw 25 ?_
        refine tw 26 ?_
        refine tk 27 (hy := ix (A := some ⟨g, 0, none⟩) (m := l.length) (hr := (by repeat (first | exact Rds.any (hB z.sp) | apply Rds.there)))) (h := ?_)
        refine tk 28 (hy := ldE (A := some ⟨g, 0, none⟩) (hr := (by repeat (first | exact Rds.any (hB z.sp) | apply Rds.there))) (hk := hx1e)) (h := ?_)
        refine tw 29 ?_
        refine one 30 (h := ?_)
        refine uz ?_
        refine cl0 (hc := fun w hS => C_match p a x1 n hq hx1r hnr w ⟨hS.get (by repeat (first | exact Rds.ro | apply Rds.there)), hS.get (by repeat (first | exact Rds.ro | apply Rds.there)), hpn, hln, hpc⟩) (h := ?_)
        rw [← hlast]
        refine nx (h := ?_)
        refine tw 31 ?_
        refine tw 32 ?_
        refine tw 33 ?_
        refine dn (h := ?_)
        refine ctnL _ sbz_ (SubL.refl _) ?_
        simp only [skipV, hasV, *]
        try simp
       ·
        refine tkS 23 (h := ?_)
        refine tkS 24 (h := ?_)
        refine tkS 25 (h := ?_)
        refine tkS 26 (h := ?_)
        refine tkS 27 (h := ?_)
        refine tkS 28 (h := ?_)
        refine tkS 29 (h := ?_)
        refine tkS 30 (h := ?_)
        refine tkS 31 (h := ?_)
        refine tw 32 ?_
        refine tw 33 ?_
        refine dn (h := ?_)
        refine ctnL _ sbz_ (SubL.refl _) ?_
        simp only [skipV, hasV, *]
        try simp
   intro s hs'
   refine czz (fun h10 => ?_) fun h10 => ?_
   ·
    have hsk : skipV p l byes n = true := hs'.symm.trans h10
    have hst0 : stepV p f l byes n = [] := by rw [stepV, hsk]; rfl
    refine et ?_
    refine q_then_exit ?_
    refine q_blk_hit ?_
    refine q_seq ?_
    refine rg ?_
    iterate 2 refine ww ?_
    refine nl ?_
    first
     | (refine rn (x := z) ⟨z.i + 1, z.y, z.sp⟩ ⟨by dsimp only; omega, hz2, by dsimp only; rw [hcs, hst0]; exact hz3⟩ (by dsimp only; omega) sbz_ (by dsimp only; rw [hcs, hst0]; exact SubL.refl _))
     | (refine rn (x := z) ⟨z.i + 1, ry, .int .i64 n :: rsp⟩ ⟨by dsimp only; omega, by simp only [List.length_cons]; exact congrArg (· + 1) hr1, by dsimp only; rw [hnxt]; exact hr2⟩ (by dsimp only; omega) sbz_ (by
       dsimp only
       rw [hnxt]
       have e : l.map vI ++ .int .i64 n :: rsp = (l ++ [n]).map vI ++ rsp := by rw [List.map_append, List.append_assoc]; rfl
       rw [e]
       exact SubL.refl _))
   ·
    have hsk : skipV p l byes n = false := hs'.symm.trans h10
    have hst0 : stepV p f l byes n = moreV p (rkV p) f (l ++ [n]) (leftB byes n) := by rw [stepV, hsk]; rfl
    have hl0 : 0 ≤ leftB byes n := by
     simp only [skipV, Bool.or_eq_false_iff, decide_eq_false_iff_not] at hsk
     omega
    have hl1 : leftB byes n ≤ 100 := by unfold leftB; cases decide (n = -1) <;> simp only [cond_true, cond_false] <;> omega
    obtain ⟨s0, sp1, hsp1⟩ : ∃ s0 sp1, z.sp = s0 :: sp1 := by
     cases hh : z.sp with
     | nil => rw [hh] at hz2; simp at hz2
     | cons s t => exact ⟨s, t, rfl⟩
    have hcs2 : (l.map vI ++ z.sp).set l.length (.int .i64 n) = (l ++ [n]).map vI ++ sp1 := by
     rw [hsp1, List.set_append_right _ _ (by simp), List.length_map, Nat.sub_self, List.set_cons_zero, List.map_append, List.append_assoc]; rfl
    have hspl1 : sp1.length = f := by rw [hsp1] at hz2; simpa using hz2
    refine skp ?_
    refine q_seq ?_
    refine sq ?_
    refine rgD (by kernel_rfl) [(1000000, .blk bm 210 [.func (.func 120) #[] #[.pointer (some ⟨bp, 0, none⟩), .pointer (some ⟨by_, 0, none⟩), .pointer (some ⟨br, 0, none⟩), .pointer (some ⟨bm, 0, none⟩)]])] (by repeat (first | exact HS.nil | (apply HS.keep; (repeat (first | exact At.here | apply At.there))) | (apply HS.ro; (repeat (first | exact Rds.ro | exact Rds.own | apply Rds.there))))) (h := ?_)
    refine tw 0 ?_
    refine tw 1 ?_
    refine tw 2 ?_
    refine tw 5 ?_
    refine one 3 (h := ?_)
    refine bs (h := fun b0 => ?_)
    refine nx (h := ?_)
    refine one 4 (h := ?_)
    refine apIn (g := g) (m := l.length) (c := p.size.toNat) (v := .int .i64 n) (ha := atz_) (hr := (by repeat (first | exact Rds.own | apply Rds.there))) (hroom := by omega) (hlen := by rw [List.length_append, List.length_map, hz2]; omega) (h := ?_)
    rw [hcs2]
    refine nx (h := ?_)
    refine one 6 (h := ?_)
    refine clX (f := 120) inferInstance (fi := []) (cap := [.pointer (some ⟨bp, 0, none⟩), .pointer (some ⟨by_, 0, none⟩), .pointer (some ⟨br, 0, none⟩), .pointer (some ⟨bm, 0, none⟩)]) (by exact rfl) (by repeat (first | exact Evs.nil | (apply Evs.cons; exact rfl))) (fun w hS => by
     have hc := ih (l ++ [n]) (leftB byes n) sp1 (k0 + cntVD p f l byes z.i) z.y w (by rw [List.length_append]; simp; omega) hspl1 ⟨hl0, hl1⟩ (fun x hx => by
      rcases List.mem_append.1 hx with hx | hx
      ·
       exact hin x hx
      ·
       simp only [List.mem_singleton] at hx; subst hx; exact hnr) (fun j v hj => by
      rw [← hst0] at hj
      have := hD _ _ (more_at p hn1 hj)
      rwa [← Nat.add_assoc] at this) hz3 (hS.sub slz_)
     rw [List.length_append] at hc
     exact hc) (by rfl) (h := fun r hr => ?_)
    refine nx (h := ?_)
    refine tw 7 ?_
    refine dn (h := ?_)
    refine q_seq ?_
    refine czz (fun h11 => ?_) fun h11 => ?_
    ·
     obtain ⟨rb, ry, rsp⟩ := r
     obtain rfl : rb = false := by simpa using h11
     obtain ⟨hr1, hr2⟩ := hr
     refine sr ?_
     refine ww ?_
     refine nq ?_
     refine rtn ?_
     refine q_blk_ret ?_
     iterate 2 refine q_then_ret ?_
     refine q_blk_ret ?_
     refine q_then_ret ?_
     refine q_retM0 (hR := ?_)
     exact fun w hS => ⟨⟨false, ry, .int .i64 n :: rsp⟩, ⟨by simp only [List.length_cons]; exact congrArg (· + 1) hr1, hr2⟩, rfl, by
      have e : l.map vI ++ .int .i64 n :: rsp = (l ++ [n]).map vI ++ rsp := by rw [List.map_append, List.append_assoc]; rfl
      rw [e]; exact hS⟩
    ·
     obtain ⟨rb, ry, rsp⟩ := r
     obtain rfl : rb = true := by simpa using h11
     obtain ⟨hr1, hr2⟩ := hr
     have hnxt : k0 + cntVD p f l byes (z.i + 1) = k0 + cntVD p f l byes z.i + (moreV p (rkV p) f (l ++ [n]) (leftB byes n)).length := by rw [hcs, hst0]; omega
     refine skp ?_
     refine q_blk_norm ?_
     refine q_seq ?_
     refine rg ?_
     iterate 2 refine ww ?_
     refine nl ?_
     first
      | (refine rn (x := z) ⟨z.i + 1, z.y, z.sp⟩ ⟨by dsimp only; omega, hz2, by dsimp only; rw [hcs, hst0]; exact hz3⟩ (by dsimp only; omega) sbz_ (by dsimp only; rw [hcs, hst0]; exact SubL.refl _))
      | (refine rn (x := z) ⟨z.i + 1, ry, .int .i64 n :: rsp⟩ ⟨by dsimp only; omega, by simp only [List.length_cons]; exact congrArg (· + 1) hr1, by dsimp only; rw [hnxt]; exact hr2⟩ (by dsimp only; omega) sbz_ (by
        dsimp only
        rw [hnxt]
        have e : l.map vI ++ .int .i64 n :: rsp = (l ++ [n]).map vI ++ rsp := by rw [List.map_append, List.append_assoc]; rfl
        rw [e]
        exact SubL.refl _))
  ·
   have hkn : z.i = (rkV p).length := by simp only [decide_eq_false_iff_not] at h1; omega
   have hfin : k0 + cntVD p f l byes z.i = k0 + (moreV p (rkV p) (f + 1) l byes).length := by rw [hkn]; unfold cntVD; rw [List.take_length]; rfl
   refine et ?_
   iterate 2 refine q_then_exit ?_
   refine q_blk_hit ?_
   refine q_seq ?_
   refine sr ?_
   refine ww ?_
   refine nq ?_
   refine rtn ?_
   refine q_retM0 (hR := ?_)
   exact fun w hS => ⟨⟨true, z.y, z.sp⟩, ⟨hz2, by rw [← hfin]; exact hz3⟩, rfl, by rw [← hfin]; exact hS⟩
end
end Go.Proofs.YthkliiifllhacaaGreat

namespace Go.Proofs.YthkliiifllhacaaGreat
open Go Go.RowKit

theorem more_all {Y : Type} (p : Pl) (a : PA) (hq : p.Ok) (hpn : p.ps.length ≤ 9223372036854775807) (hln : p.lots.length ≤ 9223372036854775807) (hpc : p.ps.length ≤ a.pc) (D : List (List Int)) (ψ : Nat → Y → Prop) (J : Nat → Y → List Ent) (ψx : Y → Prop) (Jx : Y → List Ent) (w0 : World) (lb g bp by_ br bm : Nat) (rA : Option Addr) (rc : Nat)
  (hround : Rounds p D ψ J ψx Jx (itL p a bp br rA rc) w0 lb) : ∀ f, MoreOk p D ψ J ψx Jx (itL p a bp br rA rc) w0 lb g bp by_ br bm f
 | 0 => more_zero p a hq D ψ J ψx Jx w0 lb g bp by_ br bm rA rc hround
 | f + 1 => more_succ p a hq hpn hln hpc D ψ J ψx Jx w0 lb g bp by_ br bm rA rc f (more_all p a hq hpn hln hpc D ψ J ψx Jx w0 lb g bp by_ br bm rA rc hround f)
theorem flatten_ones (v : Value) : ∀ n : Nat, (List.replicate n [v]).flatten.length = n
 | 0 => rfl
 | n + 1 => by rw [List.replicate_succ, List.flatten_cons, List.length_append, flatten_ones v n]; simp; omega
set_option maxHeartbeats 1000000 in
theorem It_draws (p : Pl) (a : PA) (hq : p.Ok) (hpn : p.ps.length ≤ 9223372036854775807) (hln : p.lots.length ≤ 9223372036854775807) (hpc : p.ps.length ≤ a.pc) (bp br : Nat) (rA : Option Addr) (rc : Nat) :
  It2 Tryz.prog 119 (fun y => [] ++ [y] ++ [.pointer (some ⟨bp, 0, none⟩), .pointer (some ⟨br, 0, none⟩)]) (itL p a bp br rA rc) (drawsV p).length (fun _ (_ : Option Addr × Nat) => True) (fun _ x => [.slice x.1 p.size.toNat x.2]) (fun k x => [.own x.1 x.2 3 1 p.size.toNat (enI ((drawsV p).getD k []))]) := by
 refine ⟨fun {Y} ψ J ψx Jx w0 w lb y0 h0 hst hround => ?_⟩
 have hz := hq.z
 have hqn := hq.n
 have hS : p.size = (p.size.toNat : Int) := by omega
 refine enM (vs := [.func (.yield lb) #[] #[], .pointer (some ⟨bp, 0, none⟩), .pointer (some ⟨br, 0, none⟩)]) Tryz.func119 Tryz.ntmps119 hst (h := ?_)
 refine sr ?_
 refine bx (h := fun b0 => ?_)
 refine nr ?_
 refine al (h := fun b1 => ?_)
 refine nr ?_
 refine ww ?_
 first | refine st (h := ?_) | refine stE (h := ?_)
 refine nq ?_
 refine rgD (by kernel_rfl) [(1000000, .blk b1 210 [.func (.func 120) #[] #[.pointer (some ⟨bp, 0, none⟩), .pointer (some ⟨b0, 0, none⟩), .pointer (some ⟨br, 0, none⟩), .pointer (some ⟨b1, 0, none⟩)]]), (1000000, .blk bp 37 (p.cells a))] (by repeat (first | exact HS.nil | (apply HS.keep; (repeat (first | exact At.here | apply At.there))) | (apply HS.ro; (repeat (first | exact Rds.ro | exact Rds.own | apply Rds.there))))) (h := ?_)
 refine tw 0 ?_
 refine tw 1 ?_
 refine tw 2 ?_
 refine tw 4 ?_
 refine tw 5 ?_
 refine tw 6 ?_
 refine tw 7 ?_
 refine tw 8 ?_
 refine tw 9 ?_
 refine one 3 (h := ?_)
 refine mkc p.size.toNat (hy := by show some (Value.int .i64 p.size) = some (Value.int .i64 ((p.size.toNat : Nat) : Int)); rw [← hS]) (h := fun g => ?_)
 refine nx (h := ?_)
 refine one 10 (h := ?_)
 refine clX (f := 120) inferInstance (fi := []) (cap := [.pointer (some ⟨bp, 0, none⟩), .pointer (some ⟨b0, 0, none⟩), .pointer (some ⟨br, 0, none⟩), .pointer (some ⟨b1, 0, none⟩)]) (by exact rfl) (by repeat (first | exact Evs.nil | (apply Evs.cons; exact rfl))) (fun w hS2 => more_all p a hq hpn hln hpc (drawsV p) ψ J ψx Jx w0 lb g bp b0 br b1 rA rc (fun R k x y w hk hφ hy hs => hround R k x y w hk hφ hy hs) p.size.toNat [] (p.size - p.ps.length) (List.replicate p.size.toNat [.int .i64 0]).flatten 0 y0 w (by simp; omega) (flatten_ones _ _) (by omega) (fun x hx => by cases hx) (fun j v hj => by rw [Nat.zero_add]; exact hj) h0 (hS2.sub slz_)) (by rfl) (h := fun r hr => ?_)
 refine nx (h := ?_)
 refine dn (h := ?_)
 refine q_endM0 (hR := ?_)
 obtain ⟨rb, ry, rsp⟩ := r
 obtain ⟨hr1, hr2⟩ := hr
 cases rb
 ·
  exact fun w hS => ⟨_, rfl, .inr ⟨ry, hr2, hS.sub (by dsimp only [cond_false]; repeat (first | exact SubL.refl _ | apply SubL.skip))⟩⟩
 ·
  rw [Nat.zero_add] at hr2
  exact fun w hS => ⟨_, rfl, .inl ⟨ry, hr2, by
   simp only [Nat.zero_add] at hS
   exact hS.sub (by dsimp only [cond_true]; repeat (first | exact SubL.refl _ | apply SubL.skip))⟩⟩
structure DrX where
 (bp br : Nat) (rA : Option Addr) (rc : Nat)
set_option maxHeartbeats 1000000 in
theorem C_draws (p : Pl) (a : PA) (hq : p.Ok) (w : World) (h : PRd w p a) : CR Tryz.prog 77 [p.val a] w (fun _ : DrX => True) (fun x => .func (.func 119) #[] #[.pointer (some ⟨x.bp, 0, none⟩), .pointer (some ⟨x.br, 0, none⟩)]) (fun x => [.blk x.bp 37 (p.cells a), .blk x.br 26 [.slice x.rA (p.ps.length + 1) x.rc], .own x.rA x.rc 3 1 (p.ps.length + 1) (enI (rkV p))]) := by
 obtain ⟨hp, hl, hpn, hln, hpc⟩ := h
 have hz := hq.z
 have hqn := hq.n
 refine ⟨en Tryz.func77 Tryz.ntmps77 (((St.init w).share (e := .ro a.pA 3 p.ps.length (encPs p.ps)) hp rfl rfl rfl).share (e := .ro a.lA 1 p.lots.length (enI p.lots)) hl rfl rfl rfl) (h := fun F => ?_)⟩
 refine sr ?_
 refine bxA (h := fun b0 => ?_)
 refine ww ?_
 refine nr ?_
 refine al (h := fun b1 => ?_)
 refine nq ?_
 iterate 2 refine sq ?_
 refine WC.nilOwn 3 1 (h := ?_)
 refine rg ?_
 iterate 4 refine ww ?_
 refine nq ?_
 refine bk ?_
 refine lp (X := ShZ) (I := fun z => z.k ≤ p.ps.length) (le := fun z => [(1, .pointer (some ⟨b0, 0, none⟩)), (3, .pointer (some ⟨b1, 0, none⟩)), (7, .int .i64 p.ps.length), (8, .int .i64 z.k)]) (Le := fun z => .blk b1 26 [.slice z.A z.k z.c] :: .own z.A z.c 3 1 z.k (enI (idxs z.k)) :: plL p a b0) (μ := fun z => p.ps.length - z.k) ⟨0, none, 0⟩ (Nat.zero_le _) sbz_ slz_ (fun z hz => ?_)
 refine sr ?_
 refine ww ?_
 refine nq ?_
 refine sq ?_
 refine czz (fun h0 => ?_) fun h0 => ?_
 ·
  have hkn : z.k < p.ps.length := by simp only [decide_eq_true_eq] at h0; omega
  have hst : enI (idxs (z.k + 1)) = enI (idxs z.k) ++ [[.int .i64 (z.k : Int)]] := by rw [idxs_succ, enI_app]
  refine skp ?_
  refine q_seq ?_
  refine sq ?_
  refine bk ?_
  refine sr ?_
  iterate 2 refine ww ?_
  refine nq ?_
  refine rg ?_
  iterate 2 refine ww ?_
  refine bs (h := fun b2 => ?_)
  first | refine ap (h := fun A1 c1 => ?_) | refine ap0 (h := fun A1 c1 => ?_)
  first | refine st (h := ?_) | refine stE (h := ?_)
  refine nl ?_
  refine q_blk_norm ?_
  refine q_seq ?_
  refine rg ?_
  iterate 2 refine ww ?_
  refine nl ?_
  refine rn (x := z) ⟨z.k + 1, _, _⟩ (by dsimp only; omega) (by dsimp only; omega) sbz_ (by dsimp only; rw [hst]; repeat (first | exact SubL.nil | (apply SubL.cons; (repeat (first | exact At.here | apply At.there))) | exact SubL.refl _ | apply SubL.skip))
 ·
  have hkn : z.k = p.ps.length := by simp only [decide_eq_false_iff_not] at h0; omega
  rw [hkn]
  refine et ?_
  iterate 2 refine q_then_exit ?_
  refine q_blk_hit ?_
  refine q_seq ?_
  refine sr ?_
  iterate 2 refine ww ?_
  refine clT (hc := T_SortFunc p a b0 hq (idxs p.ps.length) z.A p.ps.length z.c (idxs_len _) (by omega) (fun x hx => idxs_mem.1 hx)) (hs := (by repeat (first | exact Spl.nil | (apply Spl.cons; (repeat (first | exact At.here | apply At.there)))))) (h := fun _ _ => ?_)
  refine nr ?_
  refine bs (h := fun b3 => ?_)
  refine ww ?_
  first | refine ap (h := fun A2 c2 => ?_) | refine ap0 (h := fun A2 c2 => ?_)
  first | refine st (h := ?_) | refine stE (h := ?_)
  refine nr ?_
  iterate 2 refine ww ?_
  refine nq ?_
  refine rtn ?_
  refine q_ret (hR := ?_)
  have e1 : (1 : Nat) + p.ps.length = p.ps.length + 1 := by omega
  have e2 : [[Value.int .i64 (-1)]] ++ enI (sortV (ltP p) (idxs p.ps.length)) = enI (rkV p) := rfl
  exact fun w hS => ⟨⟨_, _, _, _⟩, trivial, rfl, by
   rw [e1, e2] at hS
   exact hS.sub slz_⟩
end Go.Proofs.YthkliiifllhacaaGreat

namespace Go.Proofs.YthkliiifllhacaaGreat
open Go Go.RowKit

theorem flatMap_len {α : Type} (xs : List α) (G : α → List (List Int)) (B : Nat) (h : ∀ x ∈ xs, (G x).length ≤ B) : (xs.flatMap G).length ≤ xs.length * B := by
 induction xs with
 | nil => simp
 | cons x xs ih =>
  rw [List.flatMap_cons, List.length_append, List.length_cons, Nat.succ_mul]
  have := h x (by simp)
  have := ih fun y hy => h y (List.mem_cons_of_mem _ hy)
  omega
theorem more_len (p : Pl) : ∀ (f : Nat) (l : List Int) (byes : Int), (moreV p (rkV p) f l byes).length ≤ (rkV p).length ^ f
 | 0, _, _ => by simp [moreV]
 | f + 1, l, byes => by
  rw [moreV, Nat.pow_succ, Nat.mul_comm]
  refine flatMap_len _ _ _ fun n _ => ?_
  cases skipV p l byes n
  ·
   exact more_len p f _ _
  ·
   simp
theorem draws_len {p : Pl} (hq : p.Ok) : (drawsV p).length ≤ 43046721 := by
 have h := more_len p p.size.toNat [] (byesV p)
 have hz := hq.z
 have hn := hq.n
 rw [rk_len] at h
 refine Nat.le_trans h (Nat.le_trans (Nat.pow_le_pow_left (show p.ps.length + 1 ≤ 9 by omega) _) (Nat.le_trans (Nat.pow_le_pow_right (by omega) (show p.size.toNat ≤ 8 by omega)) ?_))
 decide
theorem more_mem {p : Pl} : ∀ (f : Nat) (l : List Int) (byes : Int), (∀ x ∈ l, InP p x) → ∀ v ∈ moreV p (rkV p) f l byes, v.length = l.length + f ∧ ∀ x ∈ v, InP p x
 | 0, l, _, hl, v, hv => by
  rw [moreV, List.mem_singleton] at hv
  subst hv; exact ⟨rfl, hl⟩
 | f + 1, l, byes, hl, v, hv => by
  rw [moreV, List.mem_flatMap] at hv
  obtain ⟨n, hn, hv⟩ := hv
  cases hs : skipV p l byes n
  ·
   rw [hs] at hv
   have := more_mem f (l ++ [n]) (leftB byes n) (fun x hx => by
    rcases List.mem_append.1 hx with hx | hx
    ·
     exact hl x hx
    ·
     simp only [List.mem_singleton] at hx; subst hx; exact rk_mem.1 hn) v hv
   rw [List.length_append] at this
   exact ⟨by have := this.1; simp at this; omega, this.2⟩
  ·
   rw [hs] at hv; cases hv
theorem draws_mem {p : Pl} (hq : p.Ok) {v : List Int} (hv : v ∈ drawsV p) : v.length = p.size.toNat ∧ ∀ x ∈ v, InP p x := by
 have := more_mem p.size.toNat [] (byesV p) (fun x hx => by cases hx) v hv
 simpa using this
def cntN (p : Pl) : Int := bif pOk p then (drawsV p).length else 0
set_option maxHeartbeats 1000000 in
theorem C_dr_Count (p : Pl) (a : PA) (hz0 : -9223372036854775808 ≤ p.size ∧ p.size ≤ 9223372036854775807) (w : World) (h : PRd w p a) : C0 Tryz.prog 36 [p.val a] w (.tuple #[.int .i64 (cntN p), .int .i64 (chkP p)]) := by
 obtain ⟨hp, hl, hpn, hln, hpc⟩ := h
 refine ⟨enM Tryz.func36 Tryz.ntmps36 (((St.init w).share (e := .ro a.pA 3 p.ps.length (encPs p.ps)) hp rfl rfl rfl).share (e := .ro a.lA 1 p.lots.length (enI p.lots)) hl rfl rfl rfl) (h := ?_)⟩
 refine sr ?_
 refine bxA (h := fun b0 => ?_)
 iterate 2 refine ww ?_
 refine nq ?_
 refine sq ?_
 refine sr ?_
 refine ww ?_
 refine cl0 (hc := fun w hS => C_dr_Check p a hz0 w ⟨hS.get, hS.get, hpn, hln, hpc⟩) (h := ?_)
 refine ww ?_
 refine nr ?_
 iterate 2 refine ww ?_
 refine nq ?_
 refine czz (fun h0 => ?_) fun h0 => ?_
 ·
  have hb := chkP_no h0
  have hE : cntN p = 0 := by rw [cntN, hb]; rfl
  refine sr ?_
  iterate 3 refine ww ?_
  refine nq ?_
  refine rtn ?_
  refine q_then_ret ?_
  refine q_retM0 (hR := ?_)
  rw [hE]
  exact fun w hS => ⟨rfl, hS.sub slz_⟩
 ·
  obtain ⟨hq, hb⟩ := chkP_ok h0
  have hE : cntN p = (drawsV p).length := by rw [cntN, hb]; rfl
  have hE2 : chkP p = 0 := by rw [chkP, hb]; rfl
  have hN := draws_len hq
  refine skp ?_
  refine q_seq ?_
  refine sr ?_
  refine al (h := fun b1 => ?_)
  first | refine st (h := ?_) | refine stE (h := ?_)
  refine nq ?_
  refine sq ?_
  refine sr ?_
  refine ww ?_
  refine cl (hc := fun w hS => C_draws p a hq w ⟨hS.get, hS.get, hpn, hln, hpc⟩) (h := fun x0 _ => ?_)
  refine nq ?_
  refine bk ?_
  refine rf2 (f := 119) inferInstance (fun k (_ : Unit) => True) (fun k _ => [.blk b1 3 [.int .i64 k], .blk b0 37 (p.cells a)]) (fun _ => False) (fun _ => .skip) (fun _ => []) () (It_draws p a hq hpn hln hpc x0.bp x0.br x0.rA x0.rc) (by exact rfl) (fun _ _ => rfl) (by rfl) trivial slz_ (fun R fn tmps lb rb k x y hk hφ hy => ?_) (fun rb y hy => ?_) (fun _ _ h => h.elim)
  ·
   refine skp ?_
   refine bgn (h := ?_)
   refine bk ?_
   refine rg ?_
   iterate 2 refine ww ?_
   first | refine st (h := ?_) | refine stE (h := ?_)
   refine nl ?_
   refine q_blk_norm ?_
   refine rdN (y := ()) trivial (hs := slz_)
  refine q_blk_norm ?_
  refine q_seq ?_
  refine sr ?_
  iterate 3 refine ww ?_
  refine nq ?_
  refine rtn ?_
  refine q_retM (hR := ?_)
  rw [hE, hE2]
  exact fun w hS => ⟨rfl, hS.sub slz_⟩
def pickL (p : Pl) (n : Int) : List Int × Bool := match (drawsV p)[n.toNat]? with
 | some l => (l.map (plyV p), true)
 | none => ([], false)
set_option maxHeartbeats 2000000 in
theorem C_pick (p : Pl) (a : PA) (n : Int) (hq : p.Ok) (hn : 0 ≤ n ∧ n ≤ 9223372036854775807) (w : World) (h : PRd w p a) : CR Tryz.prog 37 [p.val a, .int .i64 n] w (fun _ : Option Addr × Nat => True) (fun x => .tuple #[.slice x.1 (pickL p n).1.length x.2, .bool (pickL p n).2]) (fun x => [.own x.1 x.2 3 1 (pickL p n).1.length (enI (pickL p n).1)]) := by
 obtain ⟨hp, hl, hpn, hln, hpc⟩ := h
 have hz := hq.z
 have hN := draws_len hq
 refine ⟨enM Tryz.func37 Tryz.ntmps37 (((St.init w).share (e := .ro a.pA 3 p.ps.length (encPs p.ps)) hp rfl rfl rfl).share (e := .ro a.lA 1 p.lots.length (enI p.lots)) hl rfl rfl rfl) (h := ?_)⟩
 refine sr ?_
 refine bxA (h := fun b0 => ?_)
 refine bx (h := fun b1 => ?_)
 refine al (h := fun b2 => ?_)
 refine al (h := fun b3 => ?_)
 refine nq ?_
 refine sq ?_
 refine sr ?_
 refine ww ?_
 refine cl (hc := fun w hS => C_draws p a hq w ⟨hS.get, hS.get, hpn, hln, hpc⟩) (h := fun x0 _ => ?_)
 refine nq ?_
 refine bk ?_
 refine rf2 (f := 119) inferInstance (fun k (_ : Option Addr × Nat) => (k : Int) ≤ n) (fun k _ => [.blk b1 3 [.int .i64 (n - (k : Int))], .blk b2 26 [.slice none 0 0], .blk b3 4 [.bool false], .blk b0 37 (p.cells a)]) (fun _ => n.toNat < (drawsV p).length) (fun _ => .ret) (fun y => [.blk b2 26 [.slice y.1 p.size.toNat y.2], .blk b3 4 [.bool true], .own y.1 y.2 3 1 p.size.toNat (enI (((drawsV p).getD n.toNat []).map (plyV p)))]) (none, 0) (It_draws p a hq hpn hln hpc x0.bp x0.br x0.rA x0.rc) (by exact rfl) (fun _ _ => rfl) (by rfl) (by omega) (by rw [show n - ((0 : Nat) : Int) = n by omega]; repeat (first | exact SubL.nil | (apply SubL.cons; (repeat (first | exact At.here | apply At.there))) | exact SubL.refl _ | apply SubL.skip)) (fun R fn tmps lb rb k x y hk hφ hy => ?_) (fun rb y hy => ?_) (fun rb y hy => ?_)
 ·
  obtain ⟨v, hv⟩ : ∃ v, (drawsV p)[k]? = some v := ⟨_, List.getElem?_eq_getElem hk⟩
  have hvm := draws_mem hq (List.mem_of_getElem? hv)
  have hvd : (drawsV p).getD k [] = v := by rw [List.getD_eq_getElem?_getD, hv]; rfl
  rw [hvd]
  refine rg ?_
  refine ww ?_
  refine nl ?_
  refine bgn (h := ?_)
  refine bk ?_
  refine sq ?_
  refine sr ?_
  iterate 2 refine ww ?_
  refine nq ?_
  refine czz (fun h0 => ?_) fun h0 => ?_
  ·
   have hkn : n.toNat = k := by have := of_decide_eq_true h0; omega
   refine sr ?_
   iterate 2 refine ww ?_
   refine cl (hc := fun w hS => C_sheet p a v x.1 p.size.toNat x.2 hvm.1 (by omega) hvm.2 w ⟨hS.get (by repeat (first | exact Rds.ro | apply Rds.there)), hS.get (by repeat (first | exact Rds.ro | apply Rds.there)), hpn, hln, hpc⟩ (hS.get (by repeat (first | exact Rds.own | apply Rds.there)))) (h := fun x1 _ => ?_)
   first | refine st (h := ?_) | refine stE (h := ?_)
   first | refine st (h := ?_) | refine stE (h := ?_)
   refine nq ?_
   refine rtn ?_
   refine q_then_ret ?_
   refine q_blk_ret ?_
   refine rdRet (y := x1) (by omega) (hs := by rw [hkn, hvd]; repeat (first | exact SubL.nil | (apply SubL.cons; (repeat (first | exact At.here | apply At.there))) | exact SubL.refl _ | apply SubL.skip))
  ·
   have hkn : (k : Int) < n := by have := of_decide_eq_false h0; omega
   refine skp ?_
   refine q_seq ?_
   refine rg ?_
   iterate 2 refine ww ?_
   first | refine st (h := ?_) | refine stE (h := ?_)
   refine nl ?_
   refine q_blk_norm ?_
   refine rdN (y := (none, 0)) (by omega) (hs := by rw [show n - (((k + 1 : Nat)) : Int) = n - (k : Int) - 1 by omega]; repeat (first | exact SubL.nil | (apply SubL.cons; (repeat (first | exact At.here | apply At.there))) | exact SubL.refl _ | apply SubL.skip))
 ·
  have hE : pickL p n = ([], false) := by rw [pickL, List.getElem?_eq_none (by omega)]
  refine q_blk_norm ?_
  refine q_seq ?_
  refine sq ?_
  refine WC.nilOwn 3 1 (h := ?_)
  refine rg ?_
  first | refine st (h := ?_) | refine stE (h := ?_)
  first | refine st (h := ?_) | refine stE (h := ?_)
  refine nq ?_
  refine rtn ?_
  refine q_retM (hR := ?_)
  rw [hE]
  exact fun w hS => ⟨(none, 0), trivial, rfl, hS.sub slz_⟩
 ·
  have hE : pickL p n = (((drawsV p).getD n.toNat []).map (plyV p), true) := by rw [pickL, List.getElem?_eq_getElem hy, List.getD_eq_getElem?_getD, List.getElem?_eq_getElem hy]; rfl
  have hlen : (((drawsV p).getD n.toNat []).map (plyV p)).length = p.size.toNat := by
   rw [List.length_map, List.getD_eq_getElem?_getD, List.getElem?_eq_getElem hy]
   exact (draws_mem hq (List.getElem_mem hy)).1
  refine rtn ?_
  refine q_blk_ret ?_
  refine q_then_ret ?_
  refine q_retM (hR := ?_)
  rw [hE]
  dsimp only
  rw [hlen]
  exact fun w hS => ⟨y, trivial, rfl, hS.sub slz_⟩
def sumID : List Int → Int
 | [] => 0
 | x :: xs => x + sumID xs
theorem sumI_take {xs : List Int} : ∀ {k : Nat} {x : Int}, xs[k]? = some x → sumID (xs.take (k + 1)) = sumID (xs.take k) + x := by
 induction xs with
 | nil => intro k x h; simp at h
 | cons y ys ih =>
  intro k x h
  cases k with
  | zero => simp at h; subst h; simp [sumID]
  | succ k =>
   simp only [List.take_succ_cons, sumID]
   rw [ih (by simpa using h)]; omega
theorem sumI_rng {xs : List Int} (h : ∀ n ∈ xs, 0 ≤ n ∧ n ≤ 999999) : 0 ≤ sumID xs ∧ sumID xs ≤ 999999 * xs.length := by
 induction xs with
 | nil => simp [sumID]
 | cons y ys ih =>
  have h1 := h y (by simp)
  have h2 := ih fun n hn => h n (List.mem_cons_of_mem _ hn)
  simp only [sumID, List.length_cons]
  omega
def drwP (p : Pl) : List Int × Int := bif !pOk p then ([], 60) else bif decide (((drawsV p).length : Int) = 0) then ([], 3) else ((pickL p (sumID p.lots % (drawsV p).length)).1, 0)
structure IZA where
 (k : Nat)
set_option maxHeartbeats 1000000 in
theorem C_dr_Draw (p : Pl) (a : PA) (hz0 : -9223372036854775808 ≤ p.size ∧ p.size ≤ 9223372036854775807) (w : World) (h : PRd w p a) : CR Tryz.prog 11 [p.val a] w (fun _ : Option Addr × Nat => True) (fun x => .tuple #[.slice x.1 (drwP p).1.length x.2, .int .i64 (drwP p).2]) (fun x => [.own x.1 x.2 3 1 (drwP p).1.length (enI (drwP p).1)]) := by
 obtain ⟨hp, hl, hpn, hln, hpc⟩ := h
 refine ⟨en Tryz.func11 Tryz.ntmps11 (((St.init w).share (e := .ro a.pA 3 p.ps.length (encPs p.ps)) hp rfl rfl rfl).share (e := .ro a.lA 1 p.lots.length (enI p.lots)) hl rfl rfl rfl) (h := fun F => ?_)⟩
 refine sr ?_
 refine bxA (h := fun b0 => ?_)
 iterate 2 refine ww ?_
 refine nr ?_
 refine ww ?_
 refine cl0 (hc := fun w hS => C_dr_Count p a hz0 w ⟨hS.get, hS.get, hpn, hln, hpc⟩) (h := ?_)
 iterate 5 refine ww ?_
 refine nq ?_
 refine sq ?_
 refine sr ?_
 iterate 2 refine ww ?_
 refine nq ?_
 refine czz (fun h0 => ?_) fun h0 => ?_
 ·
  have hb := chkP_no h0
  have hE : drwP p = ([], chkP p) := by rw [drwP, chkP, hb]; rfl
  refine WC.nilOwn 3 1 (h := ?_)
  refine sr ?_
  iterate 3 refine ww ?_
  refine nq ?_
  refine rtn ?_
  refine q_then_ret ?_
  refine q_ret (hR := ?_)
  rw [hE]
  exact fun w hS => ⟨(none, 0), trivial, rfl, hS.sub slz_⟩
 ·
  obtain ⟨hq, hb⟩ := chkP_ok h0
  have hcn : cntN p = (drawsV p).length := by rw [cntN, hb]; rfl
  rw [hcn]
  have hN := draws_len hq
  have hll := hq.l
  have hlt := hq.lt
  have hsr := sumI_rng hlt
  refine skp ?_
  refine q_seq ?_
  refine sq ?_
  refine sr ?_
  iterate 2 refine ww ?_
  refine nq ?_
  refine czz (fun h1 => ?_) fun h1 => ?_
  ·
   have hE : drwP p = ([], 3) := by rw [drwP, hb, h1]; rfl
   refine WC.nilOwn 3 1 (h := ?_)
   refine sr ?_
   iterate 2 refine ww ?_
   refine nq ?_
   refine rtn ?_
   refine q_then_ret ?_
   refine q_ret (hR := ?_)
   rw [hE]
   exact fun w hS => ⟨(none, 0), trivial, rfl, hS.sub slz_⟩
  ·
   have hE : drwP p = ((pickL p (sumID p.lots % (drawsV p).length)).1, 0) := by rw [drwP, hb, h1]; rfl
   have hN0 : 0 < (drawsV p).length := by have := of_decide_eq_false h1; omega
   have hmd : 0 ≤ sumID p.lots % ((drawsV p).length : Int) ∧ sumID p.lots % ((drawsV p).length : Int) < (drawsV p).length := ⟨Int.emod_nonneg _ (by omega), Int.emod_lt_of_pos _ (by omega)⟩
   refine skp ?_
   refine q_seq ?_
   refine sr ?_
   refine ww ?_
   refine nq ?_
   refine sq ?_
   refine sr ?_
   iterate 4 refine ww ?_
   refine nq ?_
   refine bk ?_
   refine lp (X := IZA) (I := fun z => z.k ≤ p.lots.length) (le := fun z => [(1, .pointer (some ⟨b0, 0, none⟩)), (4, .int .i64 (drawsV p).length), (6, .int .i64 (sumID (p.lots.take z.k))), (22, .slice a.lA p.lots.length a.lc), (23, .int .i64 p.lots.length), (24, .int .i64 z.k)]) (Le := fun _ => plL p a b0) (μ := fun z => p.lots.length - z.k) ⟨0⟩ (Nat.zero_le _) sbz_ slz_ (fun z hz => ?_)
   refine sr ?_
   refine ww ?_
   refine nq ?_
   refine sq ?_
   refine czz (fun h2 => ?_) fun h2 => ?_
   ·
    have hkn : z.k < p.lots.length := by simp only [decide_eq_true_eq] at h2; omega
    obtain ⟨v, hv⟩ : ∃ v, p.lots[z.k]? = some v := ⟨_, List.getElem?_eq_getElem hkn⟩
    have hve := enI_at hv
    have hst := sumI_take hv
    have hvr := hlt v (List.mem_of_getElem? hv)
    have hsk := sumI_rng (xs := p.lots.take z.k) (fun n hn => hlt n (List.mem_of_mem_take hn))
    rw [List.length_take] at hsk
    refine skp ?_
    refine q_seq ?_
    refine sq ?_
    refine bk ?_
    refine sr ?_
    refine wy (ix (A := a.lA) (m := p.lots.length)) ?_
    refine wy (ldE (A := a.lA) (hk := hve)) ?_
    refine ww ?_
    refine nq ?_
    refine rg ?_
    iterate 4 refine ww ?_
    refine nl ?_
    refine q_blk_norm ?_
    refine q_seq ?_
    refine rg ?_
    iterate 2 refine ww ?_
    refine nl ?_
    refine rn (x := z) ⟨z.k + 1⟩ (by dsimp only; omega) (by dsimp only; omega) (by dsimp only; rw [hst]; repeat (first | exact trivial | refine ⟨rfl, ?_⟩)) slz_
   ·
    have hkn : z.k = p.lots.length := by simp only [decide_eq_false_iff_not] at h2; omega
    rw [hkn, List.take_length]
    refine et ?_
    iterate 2 refine q_then_exit ?_
    refine q_blk_hit ?_
    refine q_seq ?_
    refine sq ?_
    refine rgD0 (by kernel_rfl) (h := ?_)
    refine tw 0 ?_
    refine tw 1 ?_
    refine tw 2 ?_
    refine tw 3 ?_
    refine one 4 (h := ?_)
    refine cl (hc := fun w hS => C_pick p a (sumID p.lots % (drawsV p).length) hq (by omega) w ⟨hS.get (by repeat (first | exact Rds.ro | apply Rds.there)), hS.get (by repeat (first | exact Rds.ro | apply Rds.there)), hpn, hln, hpc⟩) (h := fun x0 _ => ?_)
    refine nx (h := ?_)
    refine tw 5 ?_
    refine tw 6 ?_
    refine tw 7 ?_
    refine tw 8 ?_
    refine tw 9 ?_
    refine dn (h := ?_)
    refine q_seq ?_
    refine sr ?_
    iterate 3 refine ww ?_
    refine nq ?_
    refine rtn ?_
    refine q_ret (hR := ?_)
    rw [hE]
    exact fun w hS => ⟨x0, trivial, rfl, hS.sub slz_⟩
end Go.Proofs.YthkliiifllhacaaGreat

namespace Go.Proofs.YthkliiifllhacaaGreat
open Go Go.RowKit

def exPD : Pl := ⟨4, 1, [⟨10, 1, false⟩, ⟨20, 2, false⟩, ⟨30, 1, false⟩], [5, 4]⟩
def exR : Pl := ⟨4, 0, [⟨1, 1, false⟩, ⟨2, 1, false⟩, ⟨3, 2, false⟩, ⟨4, 0, false⟩], []⟩
theorem ex_draw : drwP exPD = ([10, -1, 30, 20], 0) := by kernel_rfl
structure ExA where
 (A1 A2 A3 : Option Addr)
set_option maxHeartbeats 1000000 in
theorem C_law06_Example (w : World) : CR Tryz.prog 30 [] w (fun _ : ExA => True) (fun x => .tuple #[exPD.val ⟨x.A1, x.A2, 3, 2⟩, exR.val ⟨x.A3, none, 4, 0⟩]) (fun x => [.own x.A1 3 103 3 3 (encPs exPD.ps), .own x.A2 2 3 1 2 (enI exPD.lots), .own x.A3 4 103 3 4 (encPs exR.ps)]) := by
 refine ⟨en Tryz.func30 Tryz.ntmps30 (St.init w) (h := fun F => ?_)⟩
 refine sr ?_
 refine al (h := fun b0 => ?_)
 refine al (h := fun b1 => ?_)
 refine nr ?_
 iterate 3 refine ww ?_
 refine bs (h := fun b2 => ?_)
 refine bs (h := fun b3 => ?_)
 refine ww ?_
 first | refine stA (h := ?_) | refine stEA (h := ?_)
 refine nr ?_
 iterate 4 refine ww ?_
 refine bs (h := fun b4 => ?_)
 refine ww ?_
 first | refine stA (h := ?_) | refine stEA (h := ?_)
 refine nq ?_
 refine sq ?_
 refine rgD0 (by kernel_rfl) (h := ?_)
 refine tw 0 ?_
 refine tw 1 ?_
 refine one 2 (h := ?_)
 first | refine stA (h := ?_) | refine stEA (h := ?_)
 refine nx (h := ?_)
 refine one 3 (h := ?_)
 first | refine stA (h := ?_) | refine stEA (h := ?_)
 refine nx (h := ?_)
 refine dn (h := ?_)
 refine q_seq ?_
 refine rtn ?_
 refine q_ret (hR := ?_)
 exact fun w hS => ⟨⟨_, _, _⟩, trivial, rfl, hS.sub slz_⟩
structure JK where
 (j : Nat)
theorem C_ref06_within (n lo hi : Int) (w : World) : C0 Tryz.prog 75 [.int .i64 n, .int .i64 lo, .int .i64 hi] w (.bool (win n lo hi)) := by
 refine ⟨en Tryz.func75 Tryz.ntmps75 (St.init w) (h := fun F => ?_)⟩
 refine sr ?_
 refine ww ?_
 refine nr ?_
 iterate 4 refine ww ?_
 apply brAnd 4 10 14 (by exact rfl)
 ·
  intro hb0
  iterate 3 refine uw ?_
  refine ww ?_
  exact mg (by repeat (first | exact trivial | refine ⟨rfl, ?_⟩ | refine ⟨by rw [hb0]; rfl, ?_⟩)) slz_
 ·
  intro hb0
  repeat (first | refine uz ?_ | refine kz ?_ | refine wz ?_)
  exact mg (by repeat (first | exact trivial | refine ⟨rfl, ?_⟩ | refine ⟨by rw [hb0]; rfl, ?_⟩)) slz_
 refine ww ?_
 refine nq ?_
 refine rtn ?_
 refine q_ret (hR := ?_)
 exact fun w hS => ⟨rfl, hS.sub slz_⟩
theorem head_ref (p : Pl) : ((!decide (p.size = 4) && !decide (p.size = 8)) || !win p.ps.length 2 p.size || !win p.seeds 0 (min p.ps.length (p.size / 2)) || decide (p.size / 2 < p.size - p.ps.length) || decide ((10 : Int) < p.lots.length)) = !headOk p := by
 unfold headOk
 rw [Bool.eq_iff_iff]
 have e1 : ∀ a b c : Int, win a b c = false ↔ ¬ (b ≤ a ∧ a ≤ c) := fun a b c => by rw [← Bool.not_eq_true, win_iff]
 simp only [Bool.or_eq_true, Bool.and_eq_true, Bool.not_eq_true', Bool.and_eq_false_iff, Bool.or_eq_false_iff, decide_eq_true_eq, decide_eq_false_iff_not, e1]
 omega
set_option maxHeartbeats 2000000 in
theorem C_ref06_Check (p : Pl) (a : PA) (hz : -9223372036854775808 ≤ p.size ∧ p.size ≤ 9223372036854775807) (w : World) (h : PRd w p a) : C0 Tryz.prog 35 [p.val a] w (.int .i64 (chkP p)) := by
 obtain ⟨hp, hl, hpn, hln, hpc⟩ := h
 refine ⟨en Tryz.func35 Tryz.ntmps35 (((St.init w).share (e := .ro a.pA 3 p.ps.length (encPs p.ps)) hp rfl rfl rfl).share (e := .ro a.lA 1 p.lots.length (enI p.lots)) hl rfl rfl rfl) (h := fun F => ?_)⟩
 refine sr ?_
 refine bxA (h := fun b0 => ?_)
 refine ww ?_
 refine nr ?_
 iterate 4 refine ww ?_
 refine nq ?_
 refine sq ?_
 refine sr ?_
 iterate 4 refine ww ?_
 apply brAnd 4 14 18 (by exact rfl)
 ·
  intro hb0
  iterate 3 refine uw ?_
  refine ww ?_
  exact mg (by repeat (first | exact trivial | refine ⟨rfl, ?_⟩ | refine ⟨by rw [hb0]; rfl, ?_⟩)) slz_
 ·
  intro hb0
  repeat (first | refine uz ?_ | refine kz ?_ | refine wz ?_)
  exact mg (by repeat (first | exact trivial | refine ⟨rfl, ?_⟩ | refine ⟨by rw [hb0]; rfl, ?_⟩)) slz_
 refine ww ?_
 apply brOr 6 19 25 (by exact rfl)
 ·
  intro hb1
  iterate 3 refine uw ?_
  refine uz ?_
  refine cl0 (hc := fun w hS => C_ref06_within _ _ _ w) (h := ?_)
  refine uw ?_
  refine ww ?_
  exact mg (by repeat (first | exact trivial | refine ⟨rfl, ?_⟩ | refine ⟨by rw [hb1]; rfl, ?_⟩)) slz_
 ·
  intro hb1
  repeat (first | refine uz ?_ | refine kz ?_ | refine wz ?_)
  exact mg (by repeat (first | exact trivial | refine ⟨rfl, ?_⟩ | refine ⟨by rw [hb1]; rfl, ?_⟩)) slz_
 refine ww ?_
 apply brOr 10 26 36 (by exact rfl)
 ·
  intro hb2
  have hw : win p.ps.length 2 p.size = true := by simp only [Bool.or_eq_false_iff, Bool.not_eq_false'] at hb2; exact hb2.2
  have hws := win_iff.1 hw
  iterate 7 refine uw ?_
  refine uz ?_
  refine cl0 (hc := fun w hS => C_ref06_within _ _ _ w) (h := ?_)
  refine uw ?_
  refine ww ?_
  exact mg (by repeat (first | exact trivial | refine ⟨rfl, ?_⟩ | refine ⟨by rw [hb2]; rfl, ?_⟩)) slz_
 ·
  intro hb2
  repeat (first | refine uz ?_ | refine kz ?_ | refine wz ?_)
  exact mg (by repeat (first | exact trivial | refine ⟨rfl, ?_⟩ | refine ⟨by rw [hb2]; rfl, ?_⟩)) slz_
 refine ww ?_
 apply brOr 9 37 46 (by exact rfl)
 ·
  intro hb3
  have hw : win p.ps.length 2 p.size = true := by simp only [Bool.or_eq_false_iff, Bool.not_eq_false'] at hb3; exact hb3.1.2
  have hws := win_iff.1 hw
  iterate 8 refine uw ?_
  refine ww ?_
  exact mg (by repeat (first | exact trivial | refine ⟨rfl, ?_⟩ | refine ⟨by rw [hb3]; rfl, ?_⟩)) slz_
 ·
  intro hb3
  repeat (first | refine uz ?_ | refine kz ?_ | refine wz ?_)
  exact mg (by repeat (first | exact trivial | refine ⟨rfl, ?_⟩ | refine ⟨by rw [hb3]; rfl, ?_⟩)) slz_
 refine ww ?_
 apply brOr 5 47 52 (by exact rfl)
 ·
  intro hb4
  iterate 4 refine uw ?_
  refine ww ?_
  exact mg (by repeat (first | exact trivial | refine ⟨rfl, ?_⟩ | refine ⟨by rw [hb4]; rfl, ?_⟩)) slz_
 ·
  intro hb4
  repeat (first | refine uz ?_ | refine kz ?_ | refine wz ?_)
  exact mg (by repeat (first | exact trivial | refine ⟨rfl, ?_⟩ | refine ⟨by rw [hb4]; rfl, ?_⟩)) slz_
 refine nq ?_
 refine czz (fun h5 => ?_) fun h5 => ?_
 ·
  have hb : headOk p = false := by rw [head_ref] at h5; simpa using h5
  have hE := chk_badD (p := p) (by rw [pOk, hb]; rfl)
  refine sr ?_
  refine ww ?_
  refine nq ?_
  refine rtn ?_
  refine q_then_ret ?_
  refine q_ret (hR := ?_)
  rw [hE]
  exact fun w hS => ⟨rfl, hS.sub slz_⟩
 ·
  have hb : headOk p = true := by rw [head_ref] at h5; simpa using h5
  refine skp ?_
  refine q_seq ?_
  refine sq ?_
  refine sr ?_
  refine ww ?_
  refine nq ?_
  refine bk ?_
  refine lp (X := IZD) (I := fun z => z.k ≤ p.ps.length ∧ pssOk p.seeds p.ps z.k = true) (le := fun z => [(1, .pointer (some ⟨b0, 0, none⟩)), (3, .int .i64 p.ps.length), (4, .int .i64 z.k)]) (Le := fun _ => plL p a b0) (μ := fun z => p.ps.length - z.k) ⟨0⟩ ⟨Nat.zero_le _, rfl⟩ sbz_ slz_ (fun z hz => ?_)
  obtain ⟨hz1, hz2⟩ := hz
  refine sq ?_
  refine sr ?_
  iterate 3 refine ww ?_
  refine nq ?_
  refine czz (fun h6 => ?_) fun h6 => ?_
  ·
   have hkn : z.k < p.ps.length := by simp only [decide_eq_true_eq] at h6; omega
   obtain ⟨x, hx1⟩ : ∃ x, p.ps[z.k]? = some x := ⟨_, List.getElem?_eq_getElem hkn⟩
   have hxe := encPs_at hx1
   have hst := pssOk_succ (seeds := p.seeds) hx1
   refine skp ?_
   refine q_seq ?_
   refine sq ?_
   refine bk ?_
   refine sr ?_
   iterate 3 refine ww ?_
   refine wy (ix (A := a.pA) (m := p.ps.length)) ?_
   refine wy (ldEA (A := a.pA) (hk := hxe)) ?_
   refine al (h := fun b1 => ?_)
   first | refine stA (h := ?_) | refine stEA (h := ?_)
   refine nq ?_
   refine sq ?_
   refine sr ?_
   iterate 2 refine ww ?_
   refine cl0 (hc := fun w hS => C_ref06_within _ _ _ w) (h := ?_)
   iterate 2 refine ww ?_
   apply brOr 5 67 72 (by exact rfl)
   ·
    intro hb7
    iterate 2 refine uw ?_
    refine uz ?_
    refine cl0 (hc := fun w hS => C_ref06_within _ _ _ w) (h := ?_)
    refine uw ?_
    refine ww ?_
    exact mg (by repeat (first | exact trivial | refine ⟨rfl, ?_⟩ | refine ⟨by rw [hb7]; rfl, ?_⟩)) slz_
   ·
    intro hb7
    repeat (first | refine uz ?_ | refine kz ?_ | refine wz ?_)
    exact mg (by repeat (first | exact trivial | refine ⟨rfl, ?_⟩ | refine ⟨by rw [hb7]; rfl, ?_⟩)) slz_
   refine ww ?_
   apply brOr 9 73 82 (by exact rfl)
   ·
    intro hb8
    iterate 5 refine uw ?_
    apply brAnd 3 78 81 (by exact rfl)
    ·
     intro hb9
     iterate 3 refine uw ?_
     exact mg (by repeat (first | exact trivial | refine ⟨rfl, ?_⟩ | refine ⟨by rw [hb9]; rfl, ?_⟩ | refine ⟨by rw [hb8]; rfl, ?_⟩)) slz_
    ·
     intro hb9
     repeat (first | refine uz ?_ | refine kz ?_ | refine wz ?_)
     exact mg (by repeat (first | exact trivial | refine ⟨rfl, ?_⟩ | refine ⟨by rw [hb9]; rfl, ?_⟩ | refine ⟨by rw [hb8]; rfl, ?_⟩)) slz_
    refine ww ?_
    exact mg (by repeat (first | exact trivial | refine ⟨rfl, ?_⟩ | refine ⟨by rw [hb8]; rfl, ?_⟩)) slz_
   ·
    intro hb8
    repeat (first | refine uz ?_ | refine kz ?_ | refine wz ?_)
    exact mg (by repeat (first | exact trivial | refine ⟨rfl, ?_⟩ | refine ⟨by rw [hb8]; rfl, ?_⟩)) slz_
   refine nq ?_
   refine czz (fun h10 => ?_) fun h10 => ?_
   ·
    have hE := chk_badD (p := p) (by rw [ps_not] at h10; rw [pOk, pssOk_le (j := z.k + 1) (by rw [hst, (by simpa using h10 : psOk p.seeds z.k x = false)]; simp) (by omega)]; simp)
    refine sr ?_
    refine ww ?_
    refine nq ?_
    refine rtn ?_
    refine q_then_ret ?_
    refine q_blk_ret ?_
    iterate 2 refine q_then_ret ?_
    refine q_blk_ret ?_
    refine q_then_ret ?_
    refine q_ret (hR := ?_)
    rw [hE]
    exact fun w hS => ⟨rfl, hS.sub slz_⟩
   ·
    have hpo : psOk p.seeds z.k x = true := by rw [ps_not] at h10; simpa using h10
    refine skp ?_
    refine q_seq ?_
    refine sr ?_
    refine ww ?_
    refine nq ?_
    refine bk ?_
    refine lp (X := JK) (I := fun y => y.j ≤ z.k ∧ dupP p.ps y.j x.player = false) (le := fun y => [(1, .pointer (some ⟨b0, 0, none⟩)), (3, .int .i64 p.ps.length), (4, .int .i64 z.k), (5, .pointer (some ⟨b1, 0, none⟩)), (6, .int .i64 y.j)]) (Le := fun _ => .blk b1 103 x.enc :: plL p a b0) (μ := fun y => z.k - y.j) ⟨0⟩ ⟨Nat.zero_le _, rfl⟩ sbz_ slz_ (fun y hy => ?_)
    obtain ⟨hy1, hy2⟩ := hy
    refine sq ?_
    refine sr ?_
    iterate 3 refine ww ?_
    refine nq ?_
    refine czz (fun h11 => ?_) fun h11 => ?_
    ·
     have hjn : y.j < z.k := by simp only [decide_eq_true_eq] at h11; omega
     obtain ⟨x2, hx2⟩ : ∃ x, p.ps[y.j]? = some x := ⟨_, List.getElem?_eq_getElem (by omega)⟩
     have hxe2 := encPs_at hx2
     have hds := dupP_succ hx2 x.player
     refine skp ?_
     refine q_seq ?_
     refine sq ?_
     refine bk ?_
     refine sq ?_
     refine rgD0 (by kernel_rfl) (h := ?_)
     refine tw 0 ?_
     refine tw 1 ?_
     refine tw 2 ?_
     refine tk 3 (hy := ix (A := a.pA) (m := p.ps.length)) (h := ?_)
     refine tw 4 ?_
     refine tk 5 (hy := ldE (A := a.pA) (hk := hxe2)) (h := ?_)
     refine tw 6 ?_
     refine tw 7 ?_
     refine tw 8 ?_
     refine dn (h := ?_)
     refine q_seq ?_
     refine czz (fun h12 => ?_) fun h12 => ?_
     ·
      have hd : dupP p.ps z.k x.player = true := dupP_le (j := y.j + 1) (by rw [hds, h12, Bool.or_true]) (by omega)
      have hE := chk_badD (p := p) (by rw [pOk, pssOk_le (j := z.k + 1) (by rw [hst, hd]; simp) (by omega)]; simp)
      refine sr ?_
      refine ww ?_
      refine nq ?_
      refine rtn ?_
      refine q_blk_ret ?_
      iterate 2 refine q_then_ret ?_
      iterate 2 refine q_blk_ret ?_
      iterate 2 refine q_then_ret ?_
      refine q_blk_ret ?_
      refine q_then_ret ?_
      refine q_ret (hR := ?_)
      rw [hE]
      exact fun w hS => ⟨rfl, hS.sub slz_⟩
     ·
      have hd1 : dupP p.ps (y.j + 1) x.player = false := by rw [hds, h12, hy2]; rfl
      refine skp ?_
      refine q_blk_norm ?_
      refine q_seq ?_
      refine rg ?_
      iterate 3 refine ww ?_
      refine nl ?_
      refine rn (x := y) ⟨y.j + 1⟩ ⟨by dsimp only; omega, hd1⟩ (by dsimp only; omega) sbz_ (SubL.refl _)
    ·
     have hjn : y.j = z.k := by simp only [decide_eq_false_iff_not] at h11; omega
     have hd : dupP p.ps z.k x.player = false := by rw [← hjn]; exact hy2
     refine et ?_
     iterate 2 refine q_then_exit ?_
     refine q_blk_hit ?_
     refine q_blk_norm ?_
     refine q_seq ?_
     refine rg ?_
     iterate 3 refine ww ?_
     refine nl ?_
     refine rn (x := z) ⟨z.k + 1⟩ ⟨by dsimp only; omega, by rw [hst, hz2, hd, hpo]; rfl⟩ (by dsimp only; omega) sbz_ slz_
  ·
   have hkn : z.k = p.ps.length := by simp only [decide_eq_false_iff_not] at h6; omega
   rw [hkn] at hz2
   refine et ?_
   iterate 2 refine q_then_exit ?_
   refine q_blk_hit ?_
   refine q_seq ?_
   refine sq ?_
   refine sr ?_
   refine ww ?_
   refine nq ?_
   refine bk ?_
   refine lp (X := IZD) (I := fun u => u.k ≤ p.lots.length ∧ (p.lots.take u.k).all lotOk = true) (le := fun u => [(1, .pointer (some ⟨b0, 0, none⟩)), (7, .int .i64 u.k)]) (Le := fun _ => plL p a b0) (μ := fun u => p.lots.length - u.k) ⟨0⟩ ⟨Nat.zero_le _, rfl⟩ sbz_ slz_ (fun u hu => ?_)
   obtain ⟨hu1, hu2⟩ := hu
   refine sq ?_
   refine sr ?_
   iterate 5 refine ww ?_
   refine nq ?_
   refine czz (fun h13 => ?_) fun h13 => ?_
   ·
    have hkn2 : u.k < p.lots.length := by simp only [decide_eq_true_eq] at h13; omega
    obtain ⟨v, hv⟩ : ∃ v, p.lots[u.k]? = some v := ⟨_, List.getElem?_eq_getElem hkn2⟩
    have hve := enI_at hv
    refine skp ?_
    refine q_seq ?_
    refine sq ?_
    refine bk ?_
    refine sr ?_
    iterate 3 refine ww ?_
    refine wy (ix (A := a.lA) (m := p.lots.length)) ?_
    refine wy (ldE (A := a.lA) (hk := hve)) ?_
    refine cl0 (hc := fun w hS => C_ref06_within _ _ _ w) (h := ?_)
    refine ww ?_
    refine nq ?_
    refine czz (fun h14 => ?_) fun h14 => ?_
    ·
     have hE := chk_badD (p := p) (by
      have h2 : p.lots.all lotOk = false := List.all_eq_false.2 ⟨v, List.mem_of_getElem? hv, by rw [show lotOk v = false by simpa [lotOk] using h14]; simp⟩
      rw [pOk, h2]; simp)
     refine sr ?_
     refine ww ?_
     refine nq ?_
     refine rtn ?_
     refine q_blk_ret ?_
     iterate 2 refine q_then_ret ?_
     refine q_blk_ret ?_
     refine q_then_ret ?_
     refine q_ret (hR := ?_)
     rw [hE]
     exact fun w hS => ⟨rfl, hS.sub slz_⟩
    ·
     have hfo : lotOk v = true := by simpa [lotOk] using h14
     refine skp ?_
     refine q_blk_norm ?_
     refine q_seq ?_
     refine rg ?_
     iterate 3 refine ww ?_
     refine nl ?_
     refine rn (x := u) ⟨u.k + 1⟩ ⟨by dsimp only; omega, by dsimp only; rw [List.take_add_one, hv, List.all_append, hu2]; simp [hfo]⟩ (by dsimp only; omega) sbz_ slz_
   ·
    have hkn2 : u.k = p.lots.length := by simp only [decide_eq_false_iff_not] at h13; omega
    have hE : chkP p = 0 := by rw [hkn2, List.take_length] at hu2; rw [chkP, pOk, hb, hu2, hz2]; rfl
    refine et ?_
    iterate 2 refine q_then_exit ?_
    refine q_blk_hit ?_
    refine q_seq ?_
    refine sr ?_
    refine ww ?_
    refine nq ?_
    refine rtn ?_
    refine q_ret (hR := ?_)
    rw [hE]
    exact fun w hS => ⟨rfl, hS.sub slz_⟩
end Go.Proofs.YthkliiifllhacaaGreat

namespace Go.Proofs.YthkliiifllhacaaGreat
open Go Go.RowKit

end Go.Proofs.YthkliiifllhacaaGreat

namespace Go.Proofs.YthkliiifllhacaaGreat
open Go Go.RowKit

section rules
variable {P : Program} {n : Nat} {D : List Deferred} {l : Env} {w0 : World} {L : List Ent}
end rules
end Go.Proofs.YthkliiifllhacaaGreat

namespace Go.Proofs.YthkliiifllhacaaGreat
open Go Go.RowKit

section
variable {p : Pl} {sheet : List Int}
end
end Go.Proofs.YthkliiifllhacaaGreat

namespace Go.Proofs.YthkliiifllhacaaGreat
open Go Go.RowKit

end Go.Proofs.YthkliiifllhacaaGreat

namespace Go.Proofs.YthkliiifllhacaaGreat
open Go Go.RowKit

theorem ints_of {w : World} {xs : List (List Value)} (hx : ∀ x ∈ xs, Mts w [.int .i64] x) : ∃ ys : List Int, xs = enI ys := by
 obtain ⟨ys, rfl⟩ := map_of (f := fun x : Int => [vI x]) (xs := xs) fun x hxm => by
  obtain ⟨a, cs, rfl, _, h⟩ := (hx x hxm).int_inv
  rw [h.nil_inv]
  exact ⟨a, rfl⟩
 exact ⟨ys, rfl⟩
structure Chg where
 (s p l : List Int)
structure ChA where
 (s p l : Option Addr) (sc pc lc : Nat)
abbrev Chg.val (x : Chg) (a : ChA) : Value := .agg #[.slice a.s x.s.length a.sc, .slice a.p x.p.length a.pc, .slice a.l x.l.length a.lc]
end Go.Proofs.YthkliiifllhacaaGreat

namespace Go.Proofs.YthkliiifllhacaaGreat
open Go Go.RowKit

section
variable {α : Type}
def posG (lt : α → α → Bool) (l : List α) (x : α) : Nat → Nat
 | 0 => 0
 | j + 1 => match l[j]? with
  | some y => bif lt x y then posG lt l x j else j + 1
  | none => j + 1
def insG (lt : α → α → Bool) (l : List α) (x : α) : List α := l.take (posG lt l x l.length) ++ x :: l.drop (posG lt l x l.length)
def srtTo (lt : α → α → Bool) (xs : List α) : Nat → List α
 | 0 => []
 | k + 1 => match xs[k]? with
  | some x => insG lt (srtTo lt xs k) x
  | none => srtTo lt xs k
def srtG (lt : α → α → Bool) (xs : List α) : List α := srtTo lt xs xs.length
theorem posG_le (lt : α → α → Bool) (l : List α) (x : α) : ∀ j, posG lt l x j ≤ j
 | 0 => Nat.le_refl _
 | j + 1 => by
  rw [posG]
  cases l[j]? with
  | none => exact Nat.le_refl _
  | some y =>
   show (bif lt x y then posG lt l x j else j + 1) ≤ j + 1
   cases lt x y
   ·
    exact Nat.le_refl _
   ·
    exact Nat.le_succ_of_le (posG_le lt l x j)
theorem insG_len (lt : α → α → Bool) (l : List α) (x : α) : (insG lt l x).length = l.length + 1 := by
 have := posG_le lt l x l.length
 simp [insG]; omega
theorem srtTo_len (lt : α → α → Bool) (xs : List α) : ∀ k, k ≤ xs.length → (srtTo lt xs k).length = k
 | 0, _ => rfl
 | k + 1, hk => by
  rw [srtTo, List.getElem?_eq_getElem (by omega)]
  simp only [insG_len, srtTo_len lt xs k (by omega)]
theorem srtG_len (lt : α → α → Bool) (xs : List α) : (srtG lt xs).length = xs.length := srtTo_len lt xs _ (Nat.le_refl _)
theorem posG_step {lt : α → α → Bool} {l : List α} {x y : α} {j : Nat} (h : l[j]? = some y) : posG lt l x (j + 1) = bif lt x y then posG lt l x j else j + 1 := by rw [posG, h]
theorem insG_perm (lt : α → α → Bool) (l : List α) (x : α) : (insG lt l x).Perm (x :: l) := by
 unfold insG
 exact List.perm_middle.trans (by rw [List.take_append_drop])
theorem srtTo_perm (lt : α → α → Bool) (xs : List α) : ∀ k, k ≤ xs.length → (srtTo lt xs k).Perm (xs.take k)
 | 0, _ => by rw [List.take_zero]; exact List.Perm.refl _
 | k + 1, hk => by
  have h : xs[k]? = some xs[k] := List.getElem?_eq_getElem (by omega)
  rw [srtTo, h, List.take_add_one, h]
  exact (insG_perm lt _ _).trans (((srtTo_perm lt xs k (by omega)).cons _).trans (List.perm_append_singleton _ _).symm)
theorem srtG_perm (lt : α → α → Bool) (xs : List α) : (srtG lt xs).Perm xs := by
 have := srtTo_perm lt xs xs.length (Nat.le_refl _)
 rwa [List.take_length] at this
theorem srtTo_mem {lt : α → α → Bool} {xs : List α} {y : α} {k : Nat} (hk : k ≤ xs.length) (h : y ∈ srtTo lt xs k) : y ∈ xs := List.mem_of_mem_take ((srtTo_perm lt xs k hk).mem_iff.1 h)
def midG (lt : α → α → Bool) (xs : List α) (k j : Nat) (x : α) : List α := (srtTo lt xs k).take j ++ x :: ((srtTo lt xs k).drop j ++ xs.drop (k + 1))
theorem midG_start {lt : α → α → Bool} {xs : List α} {k : Nat} {x : α} (hx : xs[k]? = some x) : midG lt xs k k x = srtTo lt xs k ++ xs.drop k := by
 have hk : k < xs.length := (List.getElem?_eq_some_iff.1 hx).1
 have hl := srtTo_len lt xs k (by omega)
 unfold midG
 rw [List.take_of_length_le (by omega), List.drop_of_length_le (by omega), List.nil_append, List.drop_eq_getElem_cons hk]
 congr 2
 rw [List.getElem?_eq_getElem hk] at hx
 injection hx with hx; exact hx.symm
theorem midG_at {lt : α → α → Bool} {xs : List α} {k j : Nat} {x : α} (hk : k < xs.length) (hj : j ≤ k) : (midG lt xs k j x)[j]? = some x := by
 have := srtTo_len lt xs k (by omega)
 unfold midG
 have hl : ((srtTo lt xs k).take j).length = j := by rw [List.length_take]; omega
 rw [List.getElem?_append_right (by omega), hl, Nat.sub_self]; rfl
theorem midG_below {lt : α → α → Bool} {xs : List α} {k j : Nat} {x y : α} (hk : k < xs.length) (hj : j + 1 ≤ k) (hy : (srtTo lt xs k)[j]? = some y) : (midG lt xs k (j + 1) x)[j]? = some y := by
 have := srtTo_len lt xs k (by omega)
 unfold midG
 rw [List.getElem?_append_left (by rw [List.length_take]; omega), List.getElem?_take]
 simp [hy]
theorem midG_swap {lt : α → α → Bool} {xs : List α} {k j : Nat} {x y : α} (hk : k < xs.length) (hj : j + 1 ≤ k) (hy : (srtTo lt xs k)[j]? = some y) : ((midG lt xs k (j + 1) x).set (j + 1) y).set j x = midG lt xs k j x := by
 have hl := srtTo_len lt xs k (by omega)
 have hjl : j < (srtTo lt xs k).length := by omega
 unfold midG
 have ht : (srtTo lt xs k).take (j + 1) = (srtTo lt xs k).take j ++ [y] := by rw [List.take_add_one, hy]; rfl
 have hd : (srtTo lt xs k).drop j = y :: (srtTo lt xs k).drop (j + 1) := by
  rw [List.drop_eq_getElem_cons hjl]
  congr 1
  rw [List.getElem?_eq_getElem hjl] at hy
  injection hy
 have hlt : ((srtTo lt xs k).take j).length = j := by rw [List.length_take]; omega
 rw [ht, hd, List.append_assoc, List.set_append_right _ _ (by omega), hlt]
 rw [show j + 1 - j = 1 by omega]
 simp only [List.singleton_append, List.set_cons_succ, List.set_cons_zero]
 rw [List.set_append_right _ _ (by omega), hlt, Nat.sub_self]
 simp
theorem midG_end {lt : α → α → Bool} {xs : List α} {k : Nat} {x : α} (hx : xs[k]? = some x) (j : Nat) (hj : posG lt (srtTo lt xs k) x k = j) : midG lt xs k j x = srtTo lt xs (k + 1) ++ xs.drop (k + 1) := by
 have hk : k < xs.length := (List.getElem?_eq_some_iff.1 hx).1
 have hl := srtTo_len lt xs k (by omega)
 rw [srtTo, hx]
 unfold midG insG
 simp only
 rw [hl, hj]
 simp
def Ord (key : α → Int) (l : List α) : Prop := l.Pairwise fun a b => key a ≤ key b
theorem posG_cut {key : α → Int} {l : List α} {x : α} (h : Ord key l) : ∀ j, j ≤ l.length → (∀ i y, j ≤ i → l[i]? = some y → key x < key y) → (∀ i y, i < posG (fun a b => decide (key a < key b)) l x j → l[i]? = some y → key y ≤ key x) ∧ ∀ i y, posG (fun a b => decide (key a < key b)) l x j ≤ i → l[i]? = some y → key x < key y
 | 0, _, hu => ⟨fun i y hi => by rw [posG] at hi; omega, fun i y _ hy => hu i y (Nat.zero_le _) hy⟩
 | j + 1, hj, hu => by
  obtain ⟨z, hz⟩ : ∃ z, l[j]? = some z := ⟨_, List.getElem?_eq_getElem (by omega)⟩
  rw [posG_step hz]
  by_cases e : key x < key z
  ·
   rw [decide_eq_true e, cond_true]
   refine posG_cut h j (by omega) fun i y hi hy => ?_
   by_cases e2 : i = j
   ·
    subst e2
    rw [hz] at hy
    rw [← Option.some.inj hy]; exact e
   ·
    exact hu i y (by omega) hy
  ·
   rw [decide_eq_false e, cond_false]
   refine ⟨fun i y hi hy => ?_, hu⟩
   by_cases e2 : i = j
   ·
    subst e2
    rw [hz] at hy
    rw [← Option.some.inj hy]; omega
   ·
    have hil := (List.getElem?_eq_some_iff.1 hy).1
    have := List.pairwise_iff_getElem.1 h i j hil (by omega) (by omega)
    rw [List.getElem?_eq_getElem hil] at hy
    rw [List.getElem?_eq_getElem (by omega)] at hz
    rw [← Option.some.inj hy]
    rw [Option.some.inj hz] at this
    omega
theorem insG_ord {key : α → Int} {l : List α} {x : α} (h : Ord key l) : Ord key (insG (fun a b => decide (key a < key b)) l x) := by
 obtain ⟨h1, h2⟩ := posG_cut (x := x) h l.length (Nat.le_refl _) fun i y hi hy => by have := (List.getElem?_eq_some_iff.1 hy).1; omega
 have hp := posG_le (fun a b => decide (key a < key b)) l x l.length
 unfold insG
 refine List.pairwise_append.2 ⟨h.sublist (List.take_sublist _ _), List.pairwise_cons.2 ⟨fun y hy => ?_, h.sublist (List.drop_sublist _ _)⟩, fun a ha y hy => ?_⟩
 ·
  obtain ⟨i, hi, e⟩ := List.getElem_of_mem hy
  rw [List.getElem_drop] at e
  have := h2 _ y (Nat.le_add_right _ i) (by rw [List.getElem?_eq_getElem (by rw [List.length_drop] at hi; omega), e])
  omega
 ·
  obtain ⟨i, hi, e⟩ := List.getElem_of_mem ha
  rw [List.getElem_take] at e
  rw [List.length_take] at hi
  have ha1 := h1 i a (by omega) (by rw [List.getElem?_eq_getElem (by omega), e])
  rcases List.mem_cons.1 hy with rfl | hy
  ·
   exact ha1
  ·
   obtain ⟨j, hj, e2⟩ := List.getElem_of_mem hy
   rw [List.getElem_drop] at e2
   have := h2 _ y (Nat.le_add_right _ j) (by rw [List.getElem?_eq_getElem (by rw [List.length_drop] at hj; omega), e2])
   omega
theorem srtG_ord {key : α → Int} {xs : List α} : Ord key (srtG (fun a b => decide (key a < key b)) xs) := by
 have : ∀ k, k ≤ xs.length → Ord key (srtTo (fun a b => decide (key a < key b)) xs k) := fun k => by
  induction k with
  | zero => intro _; exact List.Pairwise.nil
  | succ k ih =>
   intro hk
   rw [srtTo, List.getElem?_eq_getElem (by omega)]
   exact insG_ord (ih (by omega))
 exact this _ (Nat.le_refl _)
theorem srtTo_same {key : α → Int} {xs : List α} (h : Ord key xs) : ∀ k, k ≤ xs.length → srtTo (fun a b => decide (key a < key b)) xs k = xs.take k
 | 0, _ => rfl
 | k + 1, hk => by
  have hx : xs[k]? = some xs[k] := List.getElem?_eq_getElem (by omega)
  rw [srtTo, hx, List.take_add_one, hx, srtTo_same h k (by omega)]
  dsimp only
  have hl : (xs.take k).length = k := by rw [List.length_take]; omega
  have hp : posG (fun a b => decide (key a < key b)) (xs.take k) xs[k] (xs.take k).length = (xs.take k).length := by
   rw [hl]
   cases k with
   | zero => rfl
   | succ j =>
    have hy : (xs.take (j + 1))[j]? = some xs[j] := by rw [List.getElem?_take, if_pos (by omega), List.getElem?_eq_getElem (by omega)]
    rw [posG_step hy, decide_eq_false, cond_false]
    have := List.pairwise_iff_getElem.1 h j (j + 1) (by omega) (by omega) (by omega)
    omega
  unfold insG
  rw [hp, List.take_length, List.drop_length]
  rfl
theorem srtG_same {key : α → Int} {xs : List α} (h : Ord key xs) : srtG (fun a b => decide (key a < key b)) xs = xs := by
 rw [srtG, srtTo_same h _ (Nat.le_refl _), List.take_length]
end

structure Rp where
 (id pl wk pts : Int) (must : Bool)
abbrev Rp.enc (r : Rp) : List Value := [.int .i64 r.id, .int .i64 r.pl, .int .i64 r.wk, .int .i64 r.pts, .bool r.must]
abbrev Rp.val (r : Rp) : Value := .agg #[.int .i64 r.id, .int .i64 r.pl, .int .i64 r.wk, .int .i64 r.pts, .bool r.must]
structure Ab where
 (pl fr to : Int)
abbrev Ab.enc (a : Ab) : List Value := [.int .i64 a.pl, .int .i64 a.fr, .int .i64 a.to]
abbrev Ab.val (a : Ab) : Value := .agg #[.int .i64 a.pl, .int .i64 a.fr, .int .i64 a.to]
structure Lg where
 (players counts : Int) (rs : List Rp) (bs fs : List Ab)
structure LgA where
 (rA bA fA : Option Addr) (rc bc fc : Nat)
abbrev Lg.cells (l : Lg) (a : LgA) : List Value := [.int .i64 l.players, .int .i64 l.counts, .slice a.rA l.rs.length a.rc, .slice a.bA l.bs.length a.bc, .slice a.fA l.fs.length a.fc]
abbrev Lg.val (l : Lg) (a : LgA) : Value := .agg #[.int .i64 l.players, .int .i64 l.counts, .slice a.rA l.rs.length a.rc, .slice a.bA l.bs.length a.bc, .slice a.fA l.fs.length a.fc]
structure LgR (w : World) (l : Lg) (a : LgA) : Prop where
 r : Rd w a.rA 5 l.rs.length (l.rs.map Rp.enc)
 b : Rd w a.bA 3 l.bs.length (l.bs.map Ab.enc)
 f : Rd w a.fA 3 l.fs.length (l.fs.map Ab.enc)
 rn : l.rs.length ≤ a.rc ∧ a.rc ≤ 9223372036854775807
 bn : l.bs.length ≤ a.bc ∧ a.bc ≤ 9223372036854775807
 fn : l.fs.length ≤ a.fc ∧ a.fc ≤ 9223372036854775807
instance : DecidableEq Rp := fun a b => decidable_of_iff (a.id = b.id ∧ a.pl = b.pl ∧ a.wk = b.wk ∧ a.pts = b.pts ∧ a.must = b.must)
 ⟨fun ⟨h1, h2, h3, h4, h5⟩ => by cases a; cases b; simp_all, fun h => by subst h; exact ⟨rfl, rfl, rfl, rfl, rfl⟩⟩
def repOk (n : Int) (r : Rp) : Bool := wi r.id 0 99 && wi r.pl 0 (n - 1) && wi r.wk 0 400 && wi r.pts 0 2000
def absOk (n : Int) (a : Ab) : Bool := wi a.pl 0 (n - 1) && decide (a.fr ≤ a.to) && wi a.fr 0 400 && wi a.to 0 400
def abssOk (n : Int) (l : List Ab) : Bool := decide (l.length ≤ 8) && l.all (absOk n)
def meetA (a b : Ab) : Bool := decide (a.pl = b.pl) && decide (a.fr ≤ b.to) && decide (b.fr ≤ a.to)
def metAt (l : List Ab) (k : Nat) : Bool := match l[k]? with
 | some a => (l.take k).any fun b => meetA a b
 | none => false
def apartA (l : List Ab) : Bool := (List.range l.length).all fun k => !metAt l k
def ledOk (l : Lg) : Bool := wi l.players 1 16 && wi l.counts 1 20 && decide (l.rs.length ≤ 40) && abssOk l.players l.bs && abssOk l.players l.fs && l.rs.all (repOk l.players) && apartA l.fs
def Clash (l : List Rp) : Prop := ∃ a ∈ l, ∃ b ∈ l, a.id = b.id ∧ a ≠ b
structure LedG (l : Lg) : Prop where
 p : 1 ≤ l.players ∧ l.players ≤ 16
 c : 1 ≤ l.counts ∧ l.counts ≤ 20
 rl : l.rs.length ≤ 40
 bl : l.bs.length ≤ 8
 fl : l.fs.length ≤ 8
 b : ∀ a ∈ l.bs, (0 ≤ a.pl ∧ a.pl ≤ l.players - 1) ∧ a.fr ≤ a.to ∧ (0 ≤ a.fr ∧ a.fr ≤ 400) ∧ 0 ≤ a.to ∧ a.to ≤ 400
 f : ∀ a ∈ l.fs, (0 ≤ a.pl ∧ a.pl ≤ l.players - 1) ∧ a.fr ≤ a.to ∧ (0 ≤ a.fr ∧ a.fr ≤ 400) ∧ 0 ≤ a.to ∧ a.to ≤ 400
 r : ∀ r ∈ l.rs, (0 ≤ r.id ∧ r.id ≤ 99) ∧ (0 ≤ r.pl ∧ r.pl ≤ l.players - 1) ∧ (0 ≤ r.wk ∧ r.wk ≤ 400) ∧ 0 ≤ r.pts ∧ r.pts ≤ 2000
 a : ∀ k, k < l.fs.length → metAt l.fs k = false
theorem led_good {l : Lg} (h : ledOk l = true) : LedG l := by
 unfold ledOk abssOk at h
 simp only [Bool.and_eq_true, decide_eq_true_eq, wi_iff] at h
 obtain ⟨⟨⟨⟨⟨⟨h1, h2⟩, h3⟩, h4, h5⟩, h6, h7⟩, h8⟩, h9⟩ := h
 have hab : ∀ {ab : List Ab}, ab.all (absOk l.players) = true → ∀ a ∈ ab, (0 ≤ a.pl ∧ a.pl ≤ l.players - 1) ∧ a.fr ≤ a.to ∧ (0 ≤ a.fr ∧ a.fr ≤ 400) ∧ 0 ≤ a.to ∧ a.to ≤ 400 := fun ha a hm => by
  have := List.all_eq_true.1 ha a hm
  unfold absOk at this
  simp only [Bool.and_eq_true, decide_eq_true_eq, wi_iff] at this
  exact ⟨this.1.1.1, this.1.1.2, this.1.2, this.2⟩
 refine ⟨h1, h2, h3, h4, h6, hab h5, hab h7, fun r hr => ?_, fun k hk => ?_⟩
 ·
  have := List.all_eq_true.1 h8 r hr
  unfold repOk at this
  simp only [Bool.and_eq_true, wi_iff] at this
  exact ⟨this.1.1.1, this.1.1.2, this.1.2, this.2⟩
 ·
  have := List.all_eq_true.1 h9 k (List.mem_range.2 hk)
  simpa using this

def cptR : List Rp → List Rp
 | [] => []
 | [b] => [b]
 | b :: c :: l => if b = c then cptR (c :: l) else b :: cptR (c :: l)
theorem cptR_mem : ∀ {l : List Rp} {b : Rp}, b ∈ cptR l ↔ b ∈ l
 | [], b => Iff.rfl
 | [_], b => Iff.rfl
 | a :: c :: l, b => by
  rw [cptR]
  by_cases h : a = c
  ·
   subst h
   rw [if_pos rfl, cptR_mem, List.mem_cons, List.mem_cons, List.mem_cons]
   constructor
   ·
    exact .inr
   ·
    rintro (h | h)
    ·
     exact .inl h
    ·
     exact h
  ·
   rw [if_neg h, List.mem_cons, cptR_mem, ← List.mem_cons]
def idS (l : List Rp) : List Rp := srtG (fun a b => decide (a.id < b.id)) l
def oncV (l : List Rp) : List Rp := cptR (idS l)
def Strict (l : List Rp) : Prop := l.Pairwise fun a b => a.id < b.id
theorem cptR_strict : ∀ {l : List Rp}, Ord Rp.id l → ¬ Clash l → Strict (cptR l)
 | [], _, _ => List.Pairwise.nil
 | [_], _, _ => List.pairwise_singleton _ _
 | a :: c :: l, h, hc => by
  rw [cptR]
  obtain ⟨h1, h2⟩ := List.pairwise_cons.1 h
  have hc2 : ¬ Clash (c :: l) := fun ⟨x, hx, y, hy, e⟩ => hc ⟨x, List.mem_cons_of_mem _ hx, y, List.mem_cons_of_mem _ hy, e⟩
  by_cases e : a = c
  ·
   rw [if_pos e]; exact cptR_strict h2 hc2
  ·
   rw [if_neg e]
   refine List.pairwise_cons.2 ⟨fun b hb => ?_, cptR_strict h2 hc2⟩
   have hb' := cptR_mem.1 hb
   have hab := h1 b hb'
   have hne : a.id ≠ b.id := fun e1 => by
    have hacid : a.id = c.id := by
     have h3 := h1 c List.mem_cons_self
     rcases List.mem_cons.1 hb' with rfl | hb'
     ·
      exact e1
     ·
      have := (List.pairwise_cons.1 h2).1 b hb'
      omega
    exact hc ⟨a, List.mem_cons_self, c, List.mem_cons_of_mem _ List.mem_cons_self, hacid, e⟩
   omega
theorem onc_mem {l : List Rp} {r : Rp} : r ∈ oncV l ↔ r ∈ l := by rw [oncV, cptR_mem, idS, (srtG_perm _ _).mem_iff]
theorem onc_strict {l : List Rp} (h : ¬ Clash l) : Strict (oncV l) :=
 cptR_strict srtG_ord fun ⟨x, hx, y, hy, e⟩ => h ⟨x, (srtG_perm _ _).mem_iff.1 hx, y, (srtG_perm _ _).mem_iff.1 hy, e⟩
theorem cptR_same : ∀ {l : List Rp}, Strict l → cptR l = l
 | [], _ => rfl
 | [_], _ => rfl
 | a :: c :: l, h => by
  obtain ⟨h1, h2⟩ := List.pairwise_cons.1 h
  have hne : ¬ a = c := fun e => by have := h1 c List.mem_cons_self; rw [e] at this; omega
  rw [cptR, if_neg hne, cptR_same h2]
theorem onc_same {l : List Rp} (h : Strict l) : oncV l = l := by
 have ho : Ord Rp.id l := h.imp fun hab => by omega
 rw [oncV, idS, srtG_same ho, cptR_same h]
theorem cptR_len : ∀ l : List Rp, (cptR l).length ≤ l.length
 | [] => Nat.le_refl _
 | [_] => Nat.le_refl _
 | a :: c :: l => by
  have := cptR_len (c :: l)
  rw [cptR]
  by_cases e : a = c
  ·
   rw [if_pos e]; exact Nat.le_succ_of_le this
  ·
   rw [if_neg e, List.length_cons, List.length_cons]; omega
theorem onc_len (l : List Rp) : (oncV l).length ≤ l.length := by
 have := cptR_len (idS l)
 rw [idS, srtG_len] at this
 exact this
theorem strict_clash {l : List Rp} (h : Strict l) : ¬ Clash l := fun ⟨a, ha, b, hb, e, hne⟩ => by
 obtain ⟨i, hi, rfl⟩ := List.getElem_of_mem ha
 obtain ⟨j, hj, rfl⟩ := List.getElem_of_mem hb
 rcases Nat.lt_trichotomy i j with hij | hij | hij
 ·
  have := List.pairwise_iff_getElem.1 h i j hi hj hij
  omega
 ·
  subst hij; exact hne rfl
 ·
  have := List.pairwise_iff_getElem.1 h j i hj hi hij
  omega

def awayV (ab : List Ab) (p wk : Int) : Bool := ab.any fun a => decide (a.pl = p) && wi wk a.fr a.to
def ageTo (fs : List Ab) (r : Rp) (wk : Int) : Nat → Int
 | 0 => wk - r.wk
 | k + 1 => match fs[k]? with
  | some f => bif decide (f.pl = r.pl) then ageTo fs r wk k - max 0 (min f.to wk - max f.fr (r.wk + 1) + 1) else ageTo fs r wk k
  | none => ageTo fs r wk k
def ageV (fs : List Ab) (r : Rp) (wk : Int) : Int := ageTo fs r wk fs.length
def cntP (b : Lg) (p wk : Int) (r : Rp) : Bool := decide (r.pl = p) && decide (r.wk ≤ wk) && decide (ageV b.fs r wk < 52) && !awayV b.bs p r.wk
def couV (b : Lg) (p wk : Int) : List Rp := b.rs.filter (cntP b p wk)
def orIn : List Int → Int
 | [] => 0
 | x :: xs => bif !decide (x = 0) then x else orIn xs
def cmpT (x y : Rp) : Int := bif (!(x.must == y.must)) && x.must then -1 else bif !(x.must == y.must) then 1 else orIn [y.pts - x.pts, x.id - y.id]
def takS (all : List Rp) : List Rp := srtG (fun x y => decide (cmpT x y < 0)) all
def mustN (l : List Rp) : Nat → Int
 | 0 => 0
 | k + 1 => match l[k]? with
  | some r => bif r.must then mustN l k + 1 else mustN l k
  | none => mustN l k
def tknV (counts : Int) (all : List Rp) : List Rp := (takS all).take (min ((takS all).length : Int) (max (mustN (takS all) (takS all).length) counts)).toNat
def sumR (l : List Rp) : Nat → Int
 | 0 => 0
 | k + 1 => match l[k]? with
  | some r => sumR l k + r.pts
  | none => sumR l k
def mstR (l : List Rp) : Nat → Int
 | 0 => 0
 | k + 1 => match l[k]? with
  | some r => bif r.must then mstR l k + r.pts else mstR l k
  | none => mstR l k
structure Ln where
 (pl pts musts many : Int)
abbrev Ln.enc (x : Ln) : List Value := [.int .i64 x.pl, .int .i64 x.pts, .int .i64 x.musts, .int .i64 x.many]
abbrev Ln.val (x : Ln) : Value := .agg #[.int .i64 x.pl, .int .i64 x.pts, .int .i64 x.musts, .int .i64 x.many]
def linV (b : Lg) (wk p : Int) : Ln := ⟨p, sumR (tknV b.counts (couV b p wk)) (tknV b.counts (couV b p wk)).length, mstR (couV b p wk) (couV b p wk).length, (couV b p wk).length⟩
def offV (b : Lg) (wk p : Int) : Bool := awayV b.bs p wk || decide (((couV b p wk).length : Int) = 0)
def lnsV (b : Lg) (wk : Int) : Nat → List Ln
 | 0 => []
 | k + 1 => bif offV b wk k then lnsV b wk k else lnsV b wk k ++ [linV b wk k]
def cmpLn (x y : Ln) : Int := orIn [y.pts - x.pts, y.musts - x.musts, x.many - y.many, x.pl - y.pl]
def srtL (b : Lg) (wk : Int) : List Ln := srtG (fun x y => decide (cmpLn x y < 0)) (lnsV b wk b.players.toNat)
def lstV (b : Lg) (wk : Int) : List Int := (srtL b wk).map Ln.pl
def Lg.open (l : Lg) : Lg := { l with rs := oncV l.rs }
theorem lns_mem {b : Lg} {wk : Int} : ∀ {k : Nat} {x : Ln}, x ∈ lnsV b wk k → 0 ≤ x.pl ∧ x.pl < k
 | 0, x, h => by cases h
 | k + 1, x, h => by
  rw [lnsV] at h
  have hi : x ∈ lnsV b wk k → 0 ≤ x.pl ∧ x.pl < ((k + 1 : Nat) : Int) := fun h => by have := lns_mem h; omega
  cases e : offV b wk k
  ·
   rw [e, cond_false] at h
   rcases List.mem_append.1 h with h | h
   ·
    exact hi h
   ·
    rw [List.mem_singleton.1 h]
    show 0 ≤ (k : Int) ∧ (k : Int) < ((k + 1 : Nat) : Int)
    omega
  ·
   rw [e, cond_true] at h; exact hi h
theorem lns_nodup (b : Lg) (wk : Int) : ∀ k, ((lnsV b wk k).map Ln.pl).Nodup
 | 0 => List.nodup_nil
 | k + 1 => by
  rw [lnsV]
  cases offV b wk k
  ·
   rw [cond_false, List.map_append]
   refine List.nodup_append.2 ⟨lns_nodup b wk k, by simp, fun p hp q hq e => ?_⟩
   obtain ⟨x, hx, rfl⟩ := List.mem_map.1 hp
   have h1 := lns_mem hx
   have h2 : q = (k : Int) := List.mem_singleton.1 hq
   omega
  ·
   rw [cond_true]; exact lns_nodup b wk k
theorem lns_len (b : Lg) (wk : Int) : ∀ k, (lnsV b wk k).length ≤ k
 | 0 => Nat.le_refl _
 | k + 1 => by
  have := lns_len b wk k
  rw [lnsV]
  cases offV b wk k
  ·
   rw [cond_false, List.length_append]; simp; omega
  ·
   rw [cond_true]; omega
theorem lst_facts (b : Lg) (wk : Int) (hp : 0 ≤ b.players) : (lstV b wk).Nodup ∧ (∀ p ∈ lstV b wk, 0 ≤ p ∧ p < b.players) ∧ ((lstV b wk).length : Int) ≤ b.players := by
 have hperm := srtG_perm (fun x y => decide (cmpLn x y < 0)) (lnsV b wk b.players.toNat)
 refine ⟨(hperm.map Ln.pl).nodup_iff.2 (lns_nodup b wk _), fun p h => ?_, ?_⟩
 ·
  obtain ⟨x, hx, rfl⟩ := List.mem_map.1 h
  have := lns_mem (hperm.mem_iff.1 hx)
  omega
 ·
  unfold lstV srtL
  rw [List.length_map, srtG_len]
  have := lns_len b wk b.players.toNat
  omega
def clAt (l : List Rp) (k : Nat) : Bool := match l[k]? with
 | some a => (l.take k).any fun b => decide (a.id = b.id) && !decide (a = b)
 | none => false
def clV (l : List Rp) : Bool := (List.range l.length).any fun k => clAt l k
def lgE (l : Lg) : Int := bif !ledOk l then 40 else bif clV l.rs then 41 else 0
theorem cl_no {l : List Rp} (h : clV l = false) : ¬ Clash l := fun ⟨a, ha, b, hb, e, hne⟩ => by
 have hk : ∀ i j, i < j → ∀ x y : Rp, l[i]? = some x → l[j]? = some y → x.id = y.id → x = y := fun i j hij x y hx hy hid => by
  have hj : j < l.length := (List.getElem?_eq_some_iff.1 hy).1
  have h1 := List.any_eq_false.1 h j (List.mem_range.2 hj)
  unfold clAt at h1
  rw [hy] at h1
  have h2 : ((l.take j).any fun b => decide (y.id = b.id) && !decide (y = b)) = false := by simpa using h1
  have h3 := List.any_eq_false.1 h2 x (List.mem_of_getElem? (by rw [List.getElem?_take, if_pos hij]; exact hx))
  rw [decide_eq_true (show y.id = x.id from hid.symm)] at h3
  simp only [Bool.true_and, Bool.not_eq_true', decide_eq_false_iff_not, Classical.not_not] at h3
  exact h3.symm
 obtain ⟨i, hi, rfl⟩ := List.getElem_of_mem ha
 obtain ⟨j, hj, rfl⟩ := List.getElem_of_mem hb
 rcases Nat.lt_trichotomy i j with hij | hij | hij
 ·
  exact hne (hk i j hij _ _ (List.getElem?_eq_getElem hi) (List.getElem?_eq_getElem hj) e)
 ·
  subst hij; exact hne rfl
 ·
  exact hne (hk j i hij _ _ (List.getElem?_eq_getElem hj) (List.getElem?_eq_getElem hi) e.symm).symm
theorem lg_ok {l : Lg} (h : lgE l = 0) : LedG l ∧ ¬ Clash l.rs := by
 unfold lgE at h
 cases h1 : ledOk l
 ·
  rw [h1] at h; cases h
 ·
  rw [h1] at h
  cases h2 : clV l.rs
  ·
   exact ⟨led_good h1, cl_no h2⟩
  ·
   rw [h2] at h; cases h
theorem clash_sub {l m : List Rp} (hs : ∀ r ∈ l, r ∈ m) (h : ¬ Clash m) : ¬ Clash l := fun ⟨a, ha, b, hb, e⟩ => h ⟨a, hs a ha, b, hs b hb, e⟩
theorem LedG.sub {l : Lg} (h : LedG l) {rs : List Rp} (hs : ∀ r ∈ rs, r ∈ l.rs) (hn : rs.length ≤ 40) : LedG { l with rs := rs } := ⟨h.p, h.c, hn, h.bl, h.fl, h.b, h.f, fun r hr => h.r r (hs r hr), h.a⟩
theorem LedG.opn {l : Lg} (h : LedG l) : LedG l.open := h.sub (fun _ hr => onc_mem.1 hr) (Nat.le_trans (onc_len _) h.rl)
theorem open_open {l : Lg} (h : ¬ Clash l.rs) : l.open.open = l.open := by
 show ({ l with rs := oncV (oncV l.rs) } : Lg) = { l with rs := oncV l.rs }
 rw [onc_same (onc_strict h)]
end Go.Proofs.YthkliiifllhacaaGreat

namespace Go.Proofs.YthkliiifllhacaaGreat
open Go Go.RowKit

def kpR : Rp → List Rp → List Rp
 | _, [] => []
 | p, x :: l => if x = p then kpR x l else x :: kpR x l
theorem dropR_at {xs : List Rp} {k : Nat} {x : Rp} (h : xs[k]? = some x) : xs.drop k = x :: xs.drop (k + 1) := by
 have hk := (List.getElem?_eq_some_iff.1 h).1
 rw [List.drop_eq_getElem_cons hk]
 congr 1
 rw [List.getElem?_eq_getElem hk] at h
 exact Option.some.inj h
theorem cpt_kpR : ∀ (l : List Rp) (p : Rp), cptR (p :: l) = p :: kpR p l
 | [], p => rfl
 | x :: l, p => by
  rw [cptR, kpR]
  by_cases h : p = x
  ·
   rw [if_pos h, if_pos h.symm, cpt_kpR l x, h]
  ·
   rw [if_neg h, if_neg (fun e => h e.symm), cpt_kpR l x]
def PfR (xs : List Rp) (k : Nat) : Prop := ∃ p, xs[k - 1]? = some p ∧ cptR xs = xs.take k ++ kpR p (xs.drop k)
theorem pfR_start {xs : List Rp} (h : 0 < xs.length) : PfR xs 1 := by
 cases xs with
 | nil => cases h
 | cons x l => exact ⟨x, rfl, cpt_kpR l x⟩
theorem pfR_step {xs : List Rp} {k : Nat} {x p : Rp} (hk : 1 ≤ k) (h : PfR xs k) (hx : xs[k]? = some x) (hp : xs[k - 1]? = some p) (hne : ¬ x = p) : PfR xs (k + 1) := by
 obtain ⟨p', h1, h2⟩ := h
 rw [hp] at h1
 cases h1
 refine ⟨x, by rw [Nat.add_sub_cancel]; exact hx, ?_⟩
 rw [h2, dropR_at hx, kpR, if_neg hne, List.take_add_one, hx]
 simp
theorem pfR_end {xs : List Rp} (h : PfR xs xs.length) : cptR xs = xs := by
 obtain ⟨p, _, h2⟩ := h
 rw [h2, List.take_length, List.drop_length, kpR, List.append_nil]
structure CPR where
 (k k2 : Nat) (zs : List Rp)
structure CPR.Ok (xs : List Rp) (k0 : Nat) (z : CPR) : Prop where
 lt : z.k + 1 ≤ k0 + z.k2
 k2 : 1 ≤ z.k2
 le : k0 + z.k2 ≤ xs.length
 len : z.zs.length = xs.length
 dr : ∀ i, k0 + z.k2 ≤ i + 1 → z.zs[i]? = xs[i]?
 tk : ∃ p, xs[k0 + z.k2 - 1]? = some p ∧ cptR xs = z.zs.take z.k ++ kpR p (xs.drop (k0 + z.k2))
theorem CPR.start {xs : List Rp} {k0 : Nat} {x p : Rp} (hk : 1 ≤ k0) (h : PfR xs k0) (hx : xs[k0]? = some x) (hp : xs[k0 - 1]? = some p) (he : x = p) : CPR.Ok xs k0 ⟨k0, 1, xs⟩ := by
 have hlt := (List.getElem?_eq_some_iff.1 hx).1
 obtain ⟨p', h1, h2⟩ := h
 rw [hp] at h1
 cases h1
 refine ⟨by dsimp only; omega, Nat.le_refl _, by dsimp only; omega, rfl, fun i _ => rfl, x, by dsimp only; rw [Nat.add_sub_cancel]; exact hx, ?_⟩
 rw [h2, dropR_at hx, kpR, if_pos he]
theorem CPR.skip {xs : List Rp} {k0 : Nat} {z : CPR} (h : z.Ok xs k0) {x p : Rp} (hx : xs[k0 + z.k2]? = some x) (hp : xs[k0 + z.k2 - 1]? = some p) (he : x = p) : CPR.Ok xs k0 ⟨z.k, z.k2 + 1, z.zs⟩ := by
 have hlt := (List.getElem?_eq_some_iff.1 hx).1
 have h0 := h.lt; have h1 := h.k2; have h2 := h.le
 obtain ⟨p', h3, h4⟩ := h.tk
 rw [hp] at h3
 cases h3
 refine ⟨by dsimp only; omega, by dsimp only; omega, by dsimp only; omega, h.len, fun i hi => h.dr i (by dsimp only at hi; omega), x, by dsimp only; rw [show k0 + (z.k2 + 1) - 1 = k0 + z.k2 by omega]; exact hx, ?_⟩
 rw [h4, dropR_at hx, kpR, if_pos he]; rfl
theorem CPR.keep {xs : List Rp} {k0 : Nat} {z : CPR} (h : z.Ok xs k0) {x p : Rp} (hx : xs[k0 + z.k2]? = some x) (hp : xs[k0 + z.k2 - 1]? = some p) (he : ¬ x = p) : CPR.Ok xs k0 ⟨z.k + 1, z.k2 + 1, z.zs.set z.k x⟩ := by
 have hlt := (List.getElem?_eq_some_iff.1 hx).1
 have h0 := h.lt; have h1 := h.k2; have h2 := h.le; have hl := h.len
 obtain ⟨p', h3, h4⟩ := h.tk
 rw [hp] at h3
 cases h3
 refine ⟨by dsimp only; omega, by dsimp only; omega, by dsimp only; omega, by simp [hl], fun i hi => ?_, x, by dsimp only; rw [show k0 + (z.k2 + 1) - 1 = k0 + z.k2 by omega]; exact hx, ?_⟩
 ·
  dsimp only at hi ⊢
  rw [List.getElem?_set_ne (by omega)]
  exact h.dr i (by omega)
 ·
  dsimp only
  rw [h4, dropR_at hx, kpR, if_neg he, List.take_add_one, List.take_set, List.getElem?_set_self (by omega)]
  rw [List.set_eq_of_length_le (by rw [List.length_take]; omega)]
  simp [Nat.add_assoc]
theorem CPR.fin {xs : List Rp} {k0 : Nat} {z : CPR} (h : z.Ok xs k0) (he : k0 + z.k2 = xs.length) : cptR xs = z.zs.take z.k := by
 obtain ⟨p, _, h2⟩ := h.tk
 rw [h2, he, List.drop_length, kpR, List.append_nil]
end Go.Proofs.YthkliiifllhacaaGreat

namespace Go.Proofs.YthkliiifllhacaaGreat
open Go Go.RowKit

def RpB (r : Rp) : Prop := (0 ≤ r.id ∧ r.id ≤ 99) ∧ (0 ≤ r.pl ∧ r.pl ≤ 15) ∧ (0 ≤ r.wk ∧ r.wk ≤ 400) ∧ 0 ≤ r.pts ∧ r.pts ≤ 2000
theorem LedG.rb {l : Lg} (h : LedG l) {r : Rp} (hr : r ∈ l.rs) : RpB r := by
 have h1 := h.r r hr
 have h2 := h.p
 unfold RpB; omega
theorem age_rng {fs : List Ab} {r : Rp} {wk : Int} (hf : ∀ a ∈ fs, (0 ≤ a.fr ∧ a.fr ≤ 400) ∧ 0 ≤ a.to ∧ a.to ≤ 400) (hr : 0 ≤ r.wk ∧ r.wk ≤ 400) (hw : 0 ≤ wk ∧ wk ≤ 400) : ∀ k : Nat, -400 - 401 * (k : Int) ≤ ageTo fs r wk k ∧ ageTo fs r wk k ≤ 400
 | 0 => by rw [ageTo]; omega
 | k + 1 => by
  have ih := age_rng hf hr hw k
  rw [ageTo]
  cases e : fs[k]? with
  | none => dsimp only; omega
  | some f =>
   have h1 := hf f (List.mem_of_getElem? e)
   dsimp only
   cases decide (f.pl = r.pl)
   ·
    simp only [cond_false]; omega
   ·
    simp only [cond_true]; omega
theorem age_succ {fs : List Ab} {r : Rp} {wk : Int} {k : Nat} {f : Ab} (h : fs[k]? = some f) : ageTo fs r wk (k + 1) = bif decide (f.pl = r.pl) then ageTo fs r wk k - max 0 (min f.to wk - max f.fr (r.wk + 1) + 1) else ageTo fs r wk k := by rw [ageTo, h]
theorem must_succ {l : List Rp} {k : Nat} {r : Rp} (h : l[k]? = some r) : mustN l (k + 1) = bif r.must then mustN l k + 1 else mustN l k := by rw [mustN, h]
theorem must_rng (l : List Rp) : ∀ k : Nat, 0 ≤ mustN l k ∧ mustN l k ≤ k
 | 0 => ⟨Int.le_refl _, Int.le_refl _⟩
 | k + 1 => by
  have ih := must_rng l k
  rw [mustN]
  cases l[k]? with
  | none => dsimp only; omega
  | some r =>
   dsimp only
   cases r.must
   ·
    simp only [cond_false]; omega
   ·
    simp only [cond_true]; omega
theorem sumR_succ {l : List Rp} {k : Nat} {r : Rp} (h : l[k]? = some r) : sumR l (k + 1) = sumR l k + r.pts := by rw [sumR, h]
theorem sumR_rng {l : List Rp} (hl : ∀ r ∈ l, 0 ≤ r.pts ∧ r.pts ≤ 2000) : ∀ k : Nat, 0 ≤ sumR l k ∧ sumR l k ≤ 2000 * k
 | 0 => ⟨Int.le_refl _, Int.le_refl _⟩
 | k + 1 => by
  have ih := sumR_rng hl k
  rw [sumR]
  cases e : l[k]? with
  | none => dsimp only; omega
  | some r =>
   have := hl r (List.mem_of_getElem? e)
   dsimp only; omega
theorem mst_succ {l : List Rp} {k : Nat} {r : Rp} (h : l[k]? = some r) : mstR l (k + 1) = bif r.must then mstR l k + r.pts else mstR l k := by rw [mstR, h]
theorem mst_rng {l : List Rp} (hl : ∀ r ∈ l, 0 ≤ r.pts ∧ r.pts ≤ 2000) : ∀ k : Nat, 0 ≤ mstR l k ∧ mstR l k ≤ 2000 * k
 | 0 => ⟨Int.le_refl _, Int.le_refl _⟩
 | k + 1 => by
  have ih := mst_rng hl k
  rw [mstR]
  cases e : l[k]? with
  | none => dsimp only; omega
  | some r =>
   have := hl r (List.mem_of_getElem? e)
   dsimp only
   cases r.must
   ·
    simp only [cond_false]; omega
   ·
    simp only [cond_true]; omega
theorem cou_mem {b : Lg} {p wk : Int} {r : Rp} (h : r ∈ couV b p wk) : r ∈ b.rs := (List.mem_filter.1 h).1
theorem cou_len (b : Lg) (p wk : Int) : (couV b p wk).length ≤ b.rs.length := List.length_filter_le _ _
theorem tak_mem {all : List Rp} {r : Rp} (h : r ∈ takS all) : r ∈ all := (srtG_perm _ _).mem_iff.1 h
theorem tkn_mem {c : Int} {all : List Rp} {r : Rp} (h : r ∈ tknV c all) : r ∈ all := tak_mem (List.mem_of_mem_take h)
theorem tkn_len (c : Int) (all : List Rp) : (tknV c all).length ≤ all.length := by
 unfold tknV
 rw [List.length_take]
 have : (takS all).length = all.length := srtG_len _ _
 omega
def LnB (x : Ln) : Prop := (0 ≤ x.pl ∧ x.pl ≤ 15) ∧ (0 ≤ x.pts ∧ x.pts ≤ 80000) ∧ (0 ≤ x.musts ∧ x.musts ≤ 80000) ∧ 0 ≤ x.many ∧ x.many ≤ 40
theorem lin_rng {b : Lg} {wk : Int} {p : Int} (hr : ∀ r ∈ b.rs, 0 ≤ r.pts ∧ r.pts ≤ 2000) (hn : b.rs.length ≤ 40) (hp : 0 ≤ p ∧ p ≤ 15) : LnB (linV b wk p) := by
 have h1 := cou_len b p wk
 have h2 := tkn_len b.counts (couV b p wk)
 have h3 := sumR_rng (l := tknV b.counts (couV b p wk)) (fun r h => hr r (cou_mem (tkn_mem h))) (tknV b.counts (couV b p wk)).length
 have h4 := mst_rng (l := couV b p wk) (fun r h => hr r (cou_mem h)) (couV b p wk).length
 unfold LnB linV
 dsimp only
 omega
theorem lns_rng {b : Lg} {wk : Int} (hr : ∀ r ∈ b.rs, 0 ≤ r.pts ∧ r.pts ≤ 2000) (hn : b.rs.length ≤ 40) : ∀ {k : Nat}, k ≤ 16 → ∀ x ∈ lnsV b wk k, LnB x
 | 0, _, x, h => by cases h
 | k + 1, hk, x, h => by
  rw [lnsV] at h
  cases e : offV b wk k
  ·
   rw [e, cond_false] at h
   rcases List.mem_append.1 h with h | h
   ·
    exact lns_rng hr hn (by omega) x h
   ·
    rw [List.mem_singleton.1 h]; exact lin_rng hr hn (by omega)
  ·
   rw [e, cond_true] at h; exact lns_rng hr hn (by omega) x h
def couTo (b : Lg) (p wk : Int) (k : Nat) : List Rp := (b.rs.take k).filter (cntP b p wk)
theorem couTo_succ {b : Lg} {p wk : Int} {k : Nat} {r : Rp} (h : b.rs[k]? = some r) : couTo b p wk (k + 1) = bif cntP b p wk r then couTo b p wk k ++ [r] else couTo b p wk k := by
 unfold couTo
 rw [List.take_add_one, h, List.filter_append]
 cases e : cntP b p wk r <;> simp [e]
theorem couTo_end (b : Lg) (p wk : Int) : couTo b p wk b.rs.length = couV b p wk := by unfold couTo; rw [List.take_length]; rfl
end Go.Proofs.YthkliiifllhacaaGreat

namespace Go.Proofs.YthkliiifllhacaaGreat
open Go Go.RowKit

theorem map_atR {α β : Type} {f : α → β} {l : List α} {k : Nat} {x : α} (h : l[k]? = some x) : (l.map f)[k]? = some (f x) := by rw [List.getElem?_map, h]; rfl
theorem C_cmpOr (xs : List Int) (A : Option Addr) (n c : Nat) (w : World) (h : Rd w A 1 n (encI xs)) (hn : n ≤ 9223372036854775807) : C0 Tryz.prog 56 [.slice A n c] w (.int .i64 (orIn xs)) := by
 have hlen : xs.length = n := by have := h.len; rwa [encI_len] at this
 refine ⟨en Tryz.func56 Tryz.ntmps56 ((St.init w).share (e := .ro A 1 n (encI xs)) h rfl rfl rfl) (h := fun F => ?_)⟩
 refine sr ?_
 refine ww ?_
 refine nr ?_
 refine ww ?_
 refine nq ?_
 refine sq ?_
 refine sr ?_
 iterate 3 refine ww ?_
 refine nq ?_
 refine bk ?_
 refine lp (X := Nat) (I := fun k => k ≤ n ∧ orIn (xs.drop k) = orIn xs) (le := fun k => [(3, .int .i64 0), (6, .slice A n c), (7, .int .i64 n), (8, .int .i64 k)]) (Le := fun _ => [.ro A 1 n (encI xs)]) (μ := fun k => n - k) 0 ⟨Nat.zero_le _, rfl⟩ sbz_ slz_ (fun k hk => ?_)
 obtain ⟨hk, hko⟩ := hk
 refine sr ?_
 refine ww ?_
 refine nq ?_
 refine sq ?_
 refine czz (fun h0 => ?_) fun h0 => ?_
 ·
  have hkn : k < n := by simp only [decide_eq_true_eq] at h0; omega
  obtain ⟨x, hx⟩ : ∃ x, xs[k]? = some x := ⟨_, List.getElem?_eq_getElem (by omega)⟩
  have hxe := encI_at hx
  have hdr : xs.drop k = x :: xs.drop (k + 1) := by
   rw [List.drop_eq_getElem_cons (by omega)]
   congr 1
   rw [List.getElem?_eq_getElem (by omega)] at hx
   injection hx
  refine skp ?_
  refine q_seq ?_
  refine sq ?_
  refine bk ?_
  refine sr ?_
  refine wy (ix (A := A) (m := n)) ?_
  refine wy (ldE (A := A) (hk := hxe)) ?_
  refine ww ?_
  refine nr ?_
  iterate 3 refine ww ?_
  refine nq ?_
  refine czz (fun h1 => ?_) fun h1 => ?_
  ·
   have hE : orIn xs = x := by rw [← hko, hdr, orIn, h1]; rfl
   refine sr ?_
   iterate 2 refine ww ?_
   refine nq ?_
   refine rtn ?_
   refine q_blk_ret ?_
   iterate 2 refine q_then_ret ?_
   refine q_blk_ret ?_
   refine q_then_ret ?_
   refine q_ret (hR := ?_)
   rw [hE]
   exact fun w hS => ⟨rfl, hS.sub slz_⟩
  ·
   have hE : orIn (xs.drop (k + 1)) = orIn xs := by
    rw [← hko, hdr, orIn]
    have h' : (!decide (x = 0)) = false := h1
    rw [h']; rfl
   refine skp ?_
   refine q_blk_norm ?_
   refine q_seq ?_
   refine rg ?_
   iterate 2 refine ww ?_
   refine nl ?_
   refine rn (x := k) (k + 1) ⟨by omega, hE⟩ (by omega) sbz_ slz_
 ·
  have hkn : k = n := by simp only [decide_eq_false_iff_not] at h0; omega
  have hE : orIn xs = 0 := by rw [← hko, List.drop_of_length_le (by omega)]; rfl
  refine et ?_
  iterate 2 refine q_then_exit ?_
  refine q_blk_hit ?_
  refine q_seq ?_
  refine sr ?_
  iterate 2 refine ww ?_
  refine nq ?_
  refine rtn ?_
  refine q_ret (hR := ?_)
  rw [hE]
  exact fun w hS => ⟨rfl, hS.sub slz_⟩
set_option maxHeartbeats 1000000 in
theorem T_insR (g : FuncId) (hg : FnOk Tryz.prog g) (cmp : Rp → Rp → Int) (Q : Rp → Prop) (hc : ∀ x y, Q x → Q y → ∀ w, C0 Tryz.prog g [x.val, y.val] w (.int .i64 (cmp x y))) (xs : List Rp) (A : Option Addr) (n c : Nat) (hlen : xs.length = n) (hn : n ≤ 40) (hr : ∀ x ∈ xs, Q x) :
    Tr Tryz.prog 184 [.slice A n c, .int .i64 0, .int .i64 n, .func (.func g) #[] #[]] [.own A c 90 5 n (xs.map Rp.enc)] (fun _ : Unit => True) (fun _ => .tuple #[]) (fun _ => [.own A c 90 5 n ((srtG (fun x y => decide (cmp x y < 0)) xs).map Rp.enc)]) := by
  refine ⟨fun w0 w R hst => ?_⟩
  obtain ⟨lt, hltd⟩ : ∃ lt : Rp → Rp → Bool, lt = fun x y => decide (cmp x y < 0) := ⟨_, rfl⟩
  rw [← hltd]
  have h1 : srtTo lt xs 1 ++ xs.drop 1 = xs := by
    cases xs with
    | nil => rfl
    | cons x t => simp [srtTo, insG, posG]
  refine en Tryz.func184 Tryz.ntmps184 hst (h := fun F => ?_)
  refine sr ?_
  iterate 3 refine ww ?_
  refine nq ?_
  refine bk ?_
  refine lp (X := Nat) (I := fun k => 1 ≤ k ∧ (k ≤ n ∨ k = 1)) (le := fun k => [(0, .slice A n c), (1, .int .i64 0), (2, .int .i64 n), (3, .func (.func g) #[] #[]), (8, .int .i64 k)]) (Le := fun k => .own A c 90 5 n (((srtTo lt xs k ++ xs.drop k).map Rp.enc)) :: R) (μ := fun k => n + 1 - k) 1 ⟨Nat.le_refl _, .inr rfl⟩ sbz_ (by rw [h1]; exact SubL.refl _) (fun k hk => ?_)
  obtain ⟨hk1', hkn'⟩ := hk
  refine sq ?_
  refine sr ?_
  iterate 3 refine ww ?_
  refine nq ?_
  refine czz (fun h0 => ?_) fun h0 => ?_
  · skip
    have hkn : k < n := by simp only [decide_eq_true_eq] at h0; omega
    obtain ⟨x, hx⟩ : ∃ x, xs[k]? = some x := ⟨_, List.getElem?_eq_getElem (by omega)⟩
    have hxr := hr x (List.mem_of_getElem? hx)
    have hsl := srtTo_len lt xs k (by omega)
    rw [← midG_start hx]
    refine skp ?_
    refine q_seq ?_
    refine sq ?_
    refine bk ?_
    refine sr ?_
    iterate 2 refine ww ?_
    refine nq ?_
    refine bk ?_
    refine lp (X := Nat) (I := fun j => j ≤ k ∧ posG lt (srtTo lt xs k) x k = posG lt (srtTo lt xs k) x j) (le := fun j => [(0, .slice A n c), (1, .int .i64 0), (2, .int .i64 n), (3, .func (.func g) #[] #[]), (8, .int .i64 k), (9, .int .i64 j)]) (Le := fun j => .own A c 90 5 n (((midG lt xs k j x).map Rp.enc)) :: R) (μ := fun j => j) k ⟨Nat.le_refl _, rfl⟩ sbz_ slz_ (fun j hj => ?_)
    obtain ⟨hjk, hjp⟩ := hj
    iterate 2 refine sq ?_
    refine rgD (by kernel_rfl) [(1000000, .own A c 90 5 n (((midG lt xs k j x).map Rp.enc)))] (by repeat (first | exact HS.nil | (apply HS.keep; (repeat (first | exact At.here | apply At.there))) | (apply HS.ro; (repeat (first | exact Rds.ro | exact Rds.own | apply Rds.there))))) (h := ?_)
    refine tw 0 ?_
    refine tw 1 ?_
    refine tw 2 ?_
    refine tw 3 ?_
    refine brH (g := 21) (by exact rfl) (fun hb1 => ?_) (fun hb1 => ?_)
    · skip
      obtain ⟨i, hi⟩ : ∃ i, j = i + 1 := ⟨j - 1, by have := of_decide_eq_true hb1; omega⟩
      subst hi
      obtain ⟨y, hy⟩ : ∃ y, (srtTo lt xs k)[i]? = some y := ⟨_, List.getElem?_eq_getElem (by omega)⟩
      have hyr := hr y (srtTo_mem (k := k) (by omega) (List.mem_of_getElem? hy))
      have hbe := midG_below (lt := lt) (xs := xs) (k := k) (x := x) (by omega) (by omega) hy
      have hae := midG_at (lt := lt) (xs := xs) (k := k) (j := i + 1) (x := x) (by omega) (by omega)
      have hk0 : (((midG lt xs k (i + 1) x).map Rp.enc))[(((i + 1 : Nat) : Int) - 1).toNat]? = some y.enc := by rw [show (((i + 1 : Nat) : Int) - 1).toNat = i by omega]; exact map_atR hbe
      have hk1 : (((midG lt xs k (i + 1) x).map Rp.enc))[(((i + 1 : Nat) : Int)).toNat]? = some x.enc := map_atR hae
      refine tw 4 ?_
      refine tw 5 ?_
      refine tw 6 ?_
      refine tk 7 (hy := ix (A := A) (m := n)) (h := ?_)
      refine tk 8 (hy := ldEW (A := A) (k := (((i + 1 : Nat) : Int)).toNat) (cs := x.enc) (hk := hk1)) (h := ?_)
      refine tw 9 ?_
      refine tw 10 ?_
      refine tw 11 ?_
      refine tk 12 (hy := ix (A := A) (m := n)) (h := ?_)
      refine tk 13 (hy := ldEW (A := A) (k := (((i + 1 : Nat) : Int) - 1).toNat) (cs := y.enc) (hk := hk0)) (h := ?_)
      refine one 14 (h := ?_)
      refine uz ?_
      refine clf0 (f := g) (hf := hg) (fi := []) (cap := []) (hc := fun w hS => hc x y hxr hyr w) (h := ?_)
      refine nx (h := ?_)
      refine tw 15 ?_
      refine tw 16 ?_
      refine dn (h := ?_)
      refine q_seq ?_
      refine czz (fun h2 => ?_) fun h2 => ?_
      · skip
        have hlt : lt x y = true := by rw [hltd]; exact h2
        have hp2 : posG lt (srtTo lt xs k) x k = posG lt (srtTo lt xs k) x i := by rw [hjp, posG_step hy, hlt]; rfl
        have hi1 : (((i + 1 : Nat) : Int) - 1).toNat = i := by omega
        have hsw : ((((midG lt xs k (i + 1) x).map Rp.enc)).set (((i + 1 : Nat) : Int)).toNat (y.enc)).set (((i + 1 : Nat) : Int) - 1).toNat (x.enc) = ((midG lt xs k i x).map Rp.enc) := by
          rw [hi1]
          show ((_ : List (List Value)).set (i + 1) y.enc).set i x.enc = _
          rw [← List.map_set, ← List.map_set, midG_swap (by omega) (by omega) hy]
        refine skp ?_
        refine q_seq ?_
        refine sq ?_
        refine bk ?_
        refine WC.some_ (A := A) atz_ (by omega) (fun hAs => ?_)
        refine rgD (by kernel_rfl) [(15, .own A c 90 5 n (((midG lt xs k (i + 1) x).map Rp.enc)))] (by repeat (first | exact HS.nil | (apply HS.keep; (repeat (first | exact At.here | apply At.there))) | (apply HS.ro; (repeat (first | exact Rds.ro | exact Rds.own | apply Rds.there))))) (h := ?_)
        refine tw 0 ?_
        refine tw 1 ?_
        refine tw 2 ?_
        refine tw 3 ?_
        refine tw 4 ?_
        refine tw 5 ?_
        refine tw 6 ?_
        refine tw 7 ?_
        refine tk 8 (hy := ix (A := A) (m := n)) (h := ?_)
        refine tk 9 (hy := ldEW (A := A) (k := (((i + 1 : Nat) : Int) - 1).toNat) (cs := y.enc) (hk := hk0)) (h := ?_)
        refine tw 10 ?_
        refine tw 11 ?_
        refine tk 12 (hy := ixS (A := A) (m := n) (hs := hAs)) (h := ?_)
        refine tk 13 (hy := ldEW (A := A) (k := (((i + 1 : Nat) : Int)).toNat) (cs := x.enc) (hk := hk1)) (h := ?_)
        refine tk 14 (hy := ix (A := A) (m := n)) (h := ?_)
        refine one 15 (h := ?_)
        refine stEW (A := A) (k := (((i + 1 : Nat) : Int)).toNat) (vs := y.enc) (h := ?_)
        refine nx (h := ?_)
        refine one 16 (h := ?_)
        refine wy (ix (A := A) (m := n)) ?_
        refine nx (h := ?_)
        refine one 17 (h := ?_)
        refine stEW (A := A) (k := (((i + 1 : Nat) : Int) - 1).toNat) (vs := x.enc) (h := ?_)
        refine nx (h := ?_)
        refine dn (h := ?_)
        refine q_blk_norm ?_
        refine q_seq ?_
        refine rg ?_
        iterate 3 refine ww ?_
        refine nl ?_
        rw [hsw]
        refine rn (x := i + 1) i ⟨by omega, hp2⟩ (by omega) (by repeat (first | exact trivial | refine ⟨rfl, ?_⟩ | refine ⟨by show some (Value.int .i64 (((i + 1 : Nat) : Int) - 1)) = some (Value.int .i64 (i : Int)); congr 2; omega, ?_⟩)) slz_
      · skip
        first
          | (have hlt : lt x y = false := by rw [hltd]; exact ‹_›
             have hex : posG lt (srtTo lt xs k) x k = i + 1 := by rw [hjp, posG_step hy, hlt]; rfl)
          | skip
        refine et ?_
        iterate 2 refine q_then_exit ?_
        refine q_blk_hit ?_
        refine q_blk_norm ?_
        refine q_seq ?_
        refine rg ?_
        iterate 3 refine ww ?_
        refine nl ?_
        rw [midG_end hx _ hex]
        refine rn (x := k) (k + 1) ⟨by omega, by omega⟩ (by omega) sbz_ slz_
    · skip
      obtain rfl : j = 0 := by have := of_decide_eq_false hb1; omega
      have hex : posG lt (srtTo lt xs k) x k = 0 := hjp
      refine tkS 4 (h := ?_)
      refine tkS 5 (h := ?_)
      refine tkS 6 (h := ?_)
      refine tkS 7 (h := ?_)
      refine tkS 8 (h := ?_)
      refine tkS 9 (h := ?_)
      refine tkS 10 (h := ?_)
      refine tkS 11 (h := ?_)
      refine tkS 12 (h := ?_)
      refine tkS 13 (h := ?_)
      refine tkS 14 (h := ?_)
      refine tkS 15 (h := ?_)
      refine tw 16 ?_
      refine dn (h := ?_)
      refine q_seq ?_
      refine cdF (h := ?_)
      first
        | (have hlt : lt x y = false := by rw [hltd]; exact ‹_›
           have hex : posG lt (srtTo lt xs k) x k = i + 1 := by rw [hjp, posG_step hy, hlt]; rfl)
        | skip
      refine et ?_
      iterate 2 refine q_then_exit ?_
      refine q_blk_hit ?_
      refine q_blk_norm ?_
      refine q_seq ?_
      refine rg ?_
      iterate 3 refine ww ?_
      refine nl ?_
      rw [midG_end hx _ hex]
      refine rn (x := k) (k + 1) ⟨by omega, by omega⟩ (by omega) sbz_ slz_
  · skip
    have hkn : srtTo lt xs k ++ xs.drop k = srtG lt xs := by
      have hkn : n ≤ k := by simp only [decide_eq_false_iff_not] at h0; omega
      rcases (by omega : k = n ∨ (n = 0 ∧ k = 1)) with rfl | ⟨hn0, rfl⟩
      · rw [← hlen, List.drop_length, List.append_nil]; rfl
      · subst hn0
        rw [List.eq_nil_of_length_eq_zero hlen]; rfl
    rw [hkn]
    refine et ?_
    iterate 2 refine q_then_exit ?_
    refine q_blk_hit ?_
    refine q_end (hR := ?_)
    exact fun w hS => ⟨(), trivial, rfl, hS.sub slz_⟩

set_option maxHeartbeats 1000000 in
theorem T_insL (g : FuncId) (hg : FnOk Tryz.prog g) (cmp : Ln → Ln → Int) (Q : Ln → Prop) (hc : ∀ x y, Q x → Q y → ∀ w, C0 Tryz.prog g [x.val, y.val] w (.int .i64 (cmp x y))) (xs : List Ln) (A : Option Addr) (n c : Nat) (hlen : xs.length = n) (hn : n ≤ 40) (hr : ∀ x ∈ xs, Q x) :
    Tr Tryz.prog 170 [.slice A n c, .int .i64 0, .int .i64 n, .func (.func g) #[] #[]] [.own A c 166 4 n (xs.map Ln.enc)] (fun _ : Unit => True) (fun _ => .tuple #[]) (fun _ => [.own A c 166 4 n ((srtG (fun x y => decide (cmp x y < 0)) xs).map Ln.enc)]) := by
  refine ⟨fun w0 w R hst => ?_⟩
  obtain ⟨lt, hltd⟩ : ∃ lt : Ln → Ln → Bool, lt = fun x y => decide (cmp x y < 0) := ⟨_, rfl⟩
  rw [← hltd]
  have h1 : srtTo lt xs 1 ++ xs.drop 1 = xs := by
    cases xs with
    | nil => rfl
    | cons x t => simp [srtTo, insG, posG]
  refine en Tryz.func170 Tryz.ntmps170 hst (h := fun F => ?_)
  refine sr ?_
  iterate 3 refine ww ?_
  refine nq ?_
  refine bk ?_
  refine lp (X := Nat) (I := fun k => 1 ≤ k ∧ (k ≤ n ∨ k = 1)) (le := fun k => [(0, .slice A n c), (1, .int .i64 0), (2, .int .i64 n), (3, .func (.func g) #[] #[]), (8, .int .i64 k)]) (Le := fun k => .own A c 166 4 n (((srtTo lt xs k ++ xs.drop k).map Ln.enc)) :: R) (μ := fun k => n + 1 - k) 1 ⟨Nat.le_refl _, .inr rfl⟩ sbz_ (by rw [h1]; exact SubL.refl _) (fun k hk => ?_)
  obtain ⟨hk1', hkn'⟩ := hk
  refine sq ?_
  refine sr ?_
  iterate 3 refine ww ?_
  refine nq ?_
  refine czz (fun h0 => ?_) fun h0 => ?_
  · skip
    have hkn : k < n := by simp only [decide_eq_true_eq] at h0; omega
    obtain ⟨x, hx⟩ : ∃ x, xs[k]? = some x := ⟨_, List.getElem?_eq_getElem (by omega)⟩
    have hxr := hr x (List.mem_of_getElem? hx)
    have hsl := srtTo_len lt xs k (by omega)
    rw [← midG_start hx]
    refine skp ?_
    refine q_seq ?_
    refine sq ?_
    refine bk ?_
    refine sr ?_
    iterate 2 refine ww ?_
    refine nq ?_
    refine bk ?_
    refine lp (X := Nat) (I := fun j => j ≤ k ∧ posG lt (srtTo lt xs k) x k = posG lt (srtTo lt xs k) x j) (le := fun j => [(0, .slice A n c), (1, .int .i64 0), (2, .int .i64 n), (3, .func (.func g) #[] #[]), (8, .int .i64 k), (9, .int .i64 j)]) (Le := fun j => .own A c 166 4 n (((midG lt xs k j x).map Ln.enc)) :: R) (μ := fun j => j) k ⟨Nat.le_refl _, rfl⟩ sbz_ slz_ (fun j hj => ?_)
    obtain ⟨hjk, hjp⟩ := hj
    iterate 2 refine sq ?_
    refine rgD (by kernel_rfl) [(1000000, .own A c 166 4 n (((midG lt xs k j x).map Ln.enc)))] (by repeat (first | exact HS.nil | (apply HS.keep; (repeat (first | exact At.here | apply At.there))) | (apply HS.ro; (repeat (first | exact Rds.ro | exact Rds.own | apply Rds.there))))) (h := ?_)
    refine tw 0 ?_
    refine tw 1 ?_
    refine tw 2 ?_
    refine tw 3 ?_
    refine brH (g := 21) (by exact rfl) (fun hb1 => ?_) (fun hb1 => ?_)
    · skip
      obtain ⟨i, hi⟩ : ∃ i, j = i + 1 := ⟨j - 1, by have := of_decide_eq_true hb1; omega⟩
      subst hi
      obtain ⟨y, hy⟩ : ∃ y, (srtTo lt xs k)[i]? = some y := ⟨_, List.getElem?_eq_getElem (by omega)⟩
      have hyr := hr y (srtTo_mem (k := k) (by omega) (List.mem_of_getElem? hy))
      have hbe := midG_below (lt := lt) (xs := xs) (k := k) (x := x) (by omega) (by omega) hy
      have hae := midG_at (lt := lt) (xs := xs) (k := k) (j := i + 1) (x := x) (by omega) (by omega)
      have hk0 : (((midG lt xs k (i + 1) x).map Ln.enc))[(((i + 1 : Nat) : Int) - 1).toNat]? = some y.enc := by rw [show (((i + 1 : Nat) : Int) - 1).toNat = i by omega]; exact map_atR hbe
      have hk1 : (((midG lt xs k (i + 1) x).map Ln.enc))[(((i + 1 : Nat) : Int)).toNat]? = some x.enc := map_atR hae
      refine tw 4 ?_
      refine tw 5 ?_
      refine tw 6 ?_
      refine tk 7 (hy := ix (A := A) (m := n)) (h := ?_)
      refine tk 8 (hy := ldEW (A := A) (k := (((i + 1 : Nat) : Int)).toNat) (cs := x.enc) (hk := hk1)) (h := ?_)
      refine tw 9 ?_
      refine tw 10 ?_
      refine tw 11 ?_
      refine tk 12 (hy := ix (A := A) (m := n)) (h := ?_)
      refine tk 13 (hy := ldEW (A := A) (k := (((i + 1 : Nat) : Int) - 1).toNat) (cs := y.enc) (hk := hk0)) (h := ?_)
      refine one 14 (h := ?_)
      refine uz ?_
      refine clf0 (f := g) (hf := hg) (fi := []) (cap := []) (hc := fun w hS => hc x y hxr hyr w) (h := ?_)
      refine nx (h := ?_)
      refine tw 15 ?_
      refine tw 16 ?_
      refine dn (h := ?_)
      refine q_seq ?_
      refine czz (fun h2 => ?_) fun h2 => ?_
      · skip
        have hlt : lt x y = true := by rw [hltd]; exact h2
        have hp2 : posG lt (srtTo lt xs k) x k = posG lt (srtTo lt xs k) x i := by rw [hjp, posG_step hy, hlt]; rfl
        have hi1 : (((i + 1 : Nat) : Int) - 1).toNat = i := by omega
        have hsw : ((((midG lt xs k (i + 1) x).map Ln.enc)).set (((i + 1 : Nat) : Int)).toNat (y.enc)).set (((i + 1 : Nat) : Int) - 1).toNat (x.enc) = ((midG lt xs k i x).map Ln.enc) := by
          rw [hi1]
          show ((_ : List (List Value)).set (i + 1) y.enc).set i x.enc = _
          rw [← List.map_set, ← List.map_set, midG_swap (by omega) (by omega) hy]
        refine skp ?_
        refine q_seq ?_
        refine sq ?_
        refine bk ?_
        refine WC.some_ (A := A) atz_ (by omega) (fun hAs => ?_)
        refine rgD (by kernel_rfl) [(15, .own A c 166 4 n (((midG lt xs k (i + 1) x).map Ln.enc)))] (by repeat (first | exact HS.nil | (apply HS.keep; (repeat (first | exact At.here | apply At.there))) | (apply HS.ro; (repeat (first | exact Rds.ro | exact Rds.own | apply Rds.there))))) (h := ?_)
        refine tw 0 ?_
        refine tw 1 ?_
        refine tw 2 ?_
        refine tw 3 ?_
        refine tw 4 ?_
        refine tw 5 ?_
        refine tw 6 ?_
        refine tw 7 ?_
        refine tk 8 (hy := ix (A := A) (m := n)) (h := ?_)
        refine tk 9 (hy := ldEW (A := A) (k := (((i + 1 : Nat) : Int) - 1).toNat) (cs := y.enc) (hk := hk0)) (h := ?_)
        refine tw 10 ?_
        refine tw 11 ?_
        refine tk 12 (hy := ixS (A := A) (m := n) (hs := hAs)) (h := ?_)
        refine tk 13 (hy := ldEW (A := A) (k := (((i + 1 : Nat) : Int)).toNat) (cs := x.enc) (hk := hk1)) (h := ?_)
        refine tk 14 (hy := ix (A := A) (m := n)) (h := ?_)
        refine one 15 (h := ?_)
        refine stEW (A := A) (k := (((i + 1 : Nat) : Int)).toNat) (vs := y.enc) (h := ?_)
        refine nx (h := ?_)
        refine one 16 (h := ?_)
        refine wy (ix (A := A) (m := n)) ?_
        refine nx (h := ?_)
        refine one 17 (h := ?_)
        refine stEW (A := A) (k := (((i + 1 : Nat) : Int) - 1).toNat) (vs := x.enc) (h := ?_)
        refine nx (h := ?_)
        refine dn (h := ?_)
        refine q_blk_norm ?_
        refine q_seq ?_
        refine rg ?_
        iterate 3 refine ww ?_
        refine nl ?_
        rw [hsw]
        refine rn (x := i + 1) i ⟨by omega, hp2⟩ (by omega) (by repeat (first | exact trivial | refine ⟨rfl, ?_⟩ | refine ⟨by show some (Value.int .i64 (((i + 1 : Nat) : Int) - 1)) = some (Value.int .i64 (i : Int)); congr 2; omega, ?_⟩)) slz_
      · skip
        first
          | (have hlt : lt x y = false := by rw [hltd]; exact ‹_›
             have hex : posG lt (srtTo lt xs k) x k = i + 1 := by rw [hjp, posG_step hy, hlt]; rfl)
          | skip
        refine et ?_
        iterate 2 refine q_then_exit ?_
        refine q_blk_hit ?_
        refine q_blk_norm ?_
        refine q_seq ?_
        refine rg ?_
        iterate 3 refine ww ?_
        refine nl ?_
        rw [midG_end hx _ hex]
        refine rn (x := k) (k + 1) ⟨by omega, by omega⟩ (by omega) sbz_ slz_
    · skip
      obtain rfl : j = 0 := by have := of_decide_eq_false hb1; omega
      have hex : posG lt (srtTo lt xs k) x k = 0 := hjp
      refine tkS 4 (h := ?_)
      refine tkS 5 (h := ?_)
      refine tkS 6 (h := ?_)
      refine tkS 7 (h := ?_)
      refine tkS 8 (h := ?_)
      refine tkS 9 (h := ?_)
      refine tkS 10 (h := ?_)
      refine tkS 11 (h := ?_)
      refine tkS 12 (h := ?_)
      refine tkS 13 (h := ?_)
      refine tkS 14 (h := ?_)
      refine tkS 15 (h := ?_)
      refine tw 16 ?_
      refine dn (h := ?_)
      refine q_seq ?_
      refine cdF (h := ?_)
      first
        | (have hlt : lt x y = false := by rw [hltd]; exact ‹_›
           have hex : posG lt (srtTo lt xs k) x k = i + 1 := by rw [hjp, posG_step hy, hlt]; rfl)
        | skip
      refine et ?_
      iterate 2 refine q_then_exit ?_
      refine q_blk_hit ?_
      refine q_blk_norm ?_
      refine q_seq ?_
      refine rg ?_
      iterate 3 refine ww ?_
      refine nl ?_
      rw [midG_end hx _ hex]
      refine rn (x := k) (k + 1) ⟨by omega, by omega⟩ (by omega) sbz_ slz_
  · skip
    have hkn : srtTo lt xs k ++ xs.drop k = srtG lt xs := by
      have hkn : n ≤ k := by simp only [decide_eq_false_iff_not] at h0; omega
      rcases (by omega : k = n ∨ (n = 0 ∧ k = 1)) with rfl | ⟨hn0, rfl⟩
      · rw [← hlen, List.drop_length, List.append_nil]; rfl
      · subst hn0
        rw [List.eq_nil_of_length_eq_zero hlen]; rfl
    rw [hkn]
    refine et ?_
    iterate 2 refine q_then_exit ?_
    refine q_blk_hit ?_
    refine q_end (hR := ?_)
    exact fun w hS => ⟨(), trivial, rfl, hS.sub slz_⟩

end Go.Proofs.YthkliiifllhacaaGreat

namespace Go.Proofs.YthkliiifllhacaaGreat
open Go Go.RowKit

theorem C_CloneRp (A : Option Addr) (n c : Nat) (es : List (List Value)) (w : World) (h : Rd w A 5 n es) (hn : n ≤ 100000000) :
  CR Tryz.prog 82 [.slice A n c] w (fun _ : Option Addr × Nat => True) (fun p => .slice p.1 n p.2) (fun p => [.own p.1 p.2 90 5 n es]) := by
 refine ⟨en Tryz.func82 Tryz.ntmps82 ((St.init w).share (e := .ro A 5 n es) h rfl rfl rfl) (h := fun F => ?_)⟩
 refine sr ?_
 refine ww ?_
 refine WL.nilOwn 90 5 (h := ?_)
 refine nq ?_
 refine sq ?_
 refine sr ?_
 refine ww ?_
 refine wy eqlN ?_
 refine nq ?_
 refine czz (fun h0 => ?_) fun h0 => ?_
 ·
  refine sr ?_
  refine ww ?_
  refine nq ?_
  refine rtn ?_
  refine q_then_ret ?_
  refine q_ret (hR := ?_)
  have hn0 : n = 0 := by
   rcases Nat.eq_zero_or_pos n with e | e
   ·
    exact e
   ·
    obtain ⟨ad, rfl⟩ := h.some_ e
    cases h0
  have hes : es = [] := by have := h.len; rw [hn0] at this; exact List.length_eq_zero_iff.1 this
  exact fun w hS => ⟨(none, 0), trivial, by rw [hn0]; rfl, by rw [hn0, hes]; exact hS.sub slz_⟩
 ·
  refine skp ?_
  refine q_seq ?_
  refine sr ?_
  refine bs (h := fun b0 => ?_)
  refine ww ?_
  first | refine ap (h := fun A1 c1 => ?_) | refine ap0 (h := fun A1 c1 => ?_)
  refine ww ?_
  refine nq ?_
  refine rtn ?_
  refine q_ret (hR := ?_)
  exact fun w hS => ⟨(_, _), trivial, by simp only [Nat.zero_add]; rfl, by simp only [Nat.zero_add, List.nil_append] at hS; exact hS.sub slz_⟩
theorem C_CloneAb (A : Option Addr) (n c : Nat) (es : List (List Value)) (w : World) (h : Rd w A 3 n es) (hn : n ≤ 100000000) :
  CR Tryz.prog 42 [.slice A n c] w (fun _ : Option Addr × Nat => True) (fun p => .slice p.1 n p.2) (fun p => [.own p.1 p.2 115 3 n es]) := by
 refine ⟨en Tryz.func42 Tryz.ntmps42 ((St.init w).share (e := .ro A 3 n es) h rfl rfl rfl) (h := fun F => ?_)⟩
 refine sr ?_
 refine ww ?_
 refine WL.nilOwn 115 3 (h := ?_)
 refine nq ?_
 refine sq ?_
 refine sr ?_
 refine ww ?_
 refine wy eqlN ?_
 refine nq ?_
 refine czz (fun h0 => ?_) fun h0 => ?_
 ·
  refine sr ?_
  refine ww ?_
  refine nq ?_
  refine rtn ?_
  refine q_then_ret ?_
  refine q_ret (hR := ?_)
  have hn0 : n = 0 := by
   rcases Nat.eq_zero_or_pos n with e | e
   ·
    exact e
   ·
    obtain ⟨ad, rfl⟩ := h.some_ e
    cases h0
  have hes : es = [] := by have := h.len; rw [hn0] at this; exact List.length_eq_zero_iff.1 this
  exact fun w hS => ⟨(none, 0), trivial, by rw [hn0]; rfl, by rw [hn0, hes]; exact hS.sub slz_⟩
 ·
  refine skp ?_
  refine q_seq ?_
  refine sr ?_
  refine bs (h := fun b0 => ?_)
  refine ww ?_
  first | refine ap (h := fun A1 c1 => ?_) | refine ap0 (h := fun A1 c1 => ?_)
  refine ww ?_
  refine nq ?_
  refine rtn ?_
  refine q_ret (hR := ?_)
  exact fun w hS => ⟨(_, _), trivial, by simp only [Nat.zero_add]; rfl, by simp only [Nat.zero_add, List.nil_append] at hS; exact hS.sub slz_⟩

theorem T_stableR (g : FuncId) (hg : FnOk Tryz.prog g) (cmp : Rp → Rp → Int) (Q : Rp → Prop) (hc : ∀ x y, Q x → Q y → ∀ w, C0 Tryz.prog g [x.val, y.val] w (.int .i64 (cmp x y))) (xs : List Rp) (A : Option Addr) (n c : Nat) (hlen : xs.length = n) (hn : n ≤ 19) (hr : ∀ x ∈ xs, Q x) :
  Tr Tryz.prog 127 [.slice A n c, .int .i64 n, .func (.func g) #[] #[]] [.own A c 90 5 n (xs.map Rp.enc)] (fun _ : Unit => True) (fun _ => .tuple #[]) (fun _ => [.own A c 90 5 n ((srtG (fun x y => decide (cmp x y < 0)) xs).map Rp.enc)]) := by
 refine ⟨fun w0 w R hst => ?_⟩
 refine en Tryz.func127 Tryz.ntmps127 hst (h := fun F => ?_)
 refine sr ?_
 refine ww ?_
 refine nr ?_
 iterate 3 refine ww ?_
 refine nq ?_
 refine sq ?_
 refine bk ?_
 refine lp (X := Unit) (I := fun _ => True) (le := fun _ => [(0, .slice A n c), (1, .int .i64 n), (2, .func (.func g) #[] #[]), (6, .int .i64 20), (7, .int .i64 0), (8, .int .i64 20)]) (Le := fun _ => .own A c 90 5 n (xs.map Rp.enc) :: R) (μ := fun _ => 0) () trivial sbz_ slz_ (fun _ _ => ?_)
 refine sq ?_
 refine sr ?_
 iterate 2 refine ww ?_
 refine wy ((Yd.fl (leq) (by refine decide_eq_false ?_; omega))) ?_
 refine nq ?_
 refine cdF (h := ?_)
 refine et ?_
 iterate 2 refine q_then_exit ?_
 refine q_blk_hit ?_
 refine q_seq ?_
 refine sr ?_
 iterate 4 refine ww ?_
 refine clT (hc := T_insR g hg cmp Q hc xs A n c hlen (by omega) hr) (hs := (by repeat (first | exact Spl.nil | (apply Spl.cons; (repeat (first | exact At.here | apply At.there)))))) (h := fun _ _ => ?_)
 refine nq ?_
 refine bk ?_
 refine lp (X := Unit) (I := fun _ => True) (le := fun _ => [(0, .slice A n c), (1, .int .i64 n), (6, .int .i64 20)]) (Le := fun _ => .own A c 90 5 n ((srtG (fun x y => decide (cmp x y < 0)) xs).map Rp.enc) :: R) (μ := fun _ => 0) () trivial sbz_ slz_ (fun _ _ => ?_)
 refine sq ?_
 refine sr ?_
 iterate 2 refine ww ?_
 refine wy ((Yd.fl (lss) (by refine decide_eq_false ?_; omega))) ?_
 refine nq ?_
 refine cdF (h := ?_)
 refine et ?_
 iterate 2 refine q_then_exit ?_
 refine q_blk_hit ?_
 refine q_end (hR := ?_)
 exact fun w hS => ⟨(), trivial, rfl, hS.sub slz_⟩
theorem T_sortStableR (g : FuncId) (hg : FnOk Tryz.prog g) (cmp : Rp → Rp → Int) (Q : Rp → Prop) (hc : ∀ x y, Q x → Q y → ∀ w, C0 Tryz.prog g [x.val, y.val] w (.int .i64 (cmp x y))) (xs : List Rp) (A : Option Addr) (n c : Nat) (hlen : xs.length = n) (hn : n ≤ 19) (hr : ∀ x ∈ xs, Q x) :
  Tr Tryz.prog 83 [.slice A n c, .func (.func g) #[] #[]] [.own A c 90 5 n (xs.map Rp.enc)] (fun _ : Unit => True) (fun _ => .tuple #[]) (fun _ => [.own A c 90 5 n ((srtG (fun x y => decide (cmp x y < 0)) xs).map Rp.enc)]) := by
 refine ⟨fun w0 w R hst => ?_⟩
 refine en Tryz.func83 Tryz.ntmps83 hst (h := fun F => ?_)
 refine rg ?_
 iterate 4 refine ww ?_
 refine clT (hc := T_stableR g hg cmp Q hc xs A n c hlen hn hr) (hs := (by repeat (first | exact Spl.nil | (apply Spl.cons; (repeat (first | exact At.here | apply At.there)))))) (h := fun _ _ => ?_)
 refine nl ?_
 refine q_end (hR := ?_)
 exact fun w hS => ⟨(), trivial, rfl, hS.sub slz_⟩

theorem rp_at {xs : List Rp} {k : Nat} {x : Rp} (h : xs[k]? = some x) : (xs.map Rp.enc)[k]? = some x.enc := map_atR h
def rpF (r : Rp) : List Fl := [.i r.id, .i r.pl, .i r.wk, .i r.pts, .b r.must]
theorem rpF_inj {x y : Rp} (h : rpF x = rpF y) : x = y := by
 cases x; cases y
 simp only [rpF, List.cons.injEq, Fl.i.injEq, Fl.b.injEq, and_true] at h
 obtain ⟨h1, h2, h3, h4, h5⟩ := h
 subst h1 h2 h3 h4 h5; rfl
theorem dec_rp (x y : Rp) : decide (rpF x = rpF y) = decide (x = y) := decide_eq_decide.2 ⟨rpF_inj, fun h => by rw [h]⟩
theorem rd_fromR {w : World} {A : Option Addr} {c n k0 : Nat} {T : TypeId} {es : List (List Value)} (hc : n ≤ c) (hk : k0 ≤ n) (h : (Ent.own A c T 5 n es).ok w) : Rd w (if c = k0 then A else A.map (·.add (k0 * 5))) 5 (n - k0) ((es.drop k0).take (n - k0)) := h.2.part c k0 n hk (Nat.le_refl _) hc
theorem from_atR {xs : List Rp} {n k0 k2 : Nat} {x : Rp} (hl : xs.length = n) (hx : xs[k0 + k2]? = some x) : (((xs.map Rp.enc).drop k0).take (n - k0))[k2]? = some x.enc := by
 have hlt := (List.getElem?_eq_some_iff.1 hx).1
 rw [List.getElem?_take, if_pos (by omega), List.getElem?_drop]
 exact map_atR hx
set_option maxRecDepth 100000 in
set_option maxHeartbeats 4194304 in
theorem T_CompactR (xs : List Rp) (A : Option Addr) (n c : Nat) (hl : xs.length = n) (hn : n ≤ 4194304) :
  Tr Tryz.prog 85 [.slice A n c] [.own A c 90 5 n (xs.map Rp.enc)] (fun _ : Unit => True) (fun _ => .slice A (cptR xs).length c) (fun _ => [.own A c 90 5 (cptR xs).length ((cptR xs).map Rp.enc)]) := by
 refine ⟨fun w0 w R hst => ?_⟩
 refine en Tryz.func85 Tryz.ntmps85 hst (h := fun F => ?_)
 refine WC.room .here (fun hroom => ?_)
 refine sr ?_
 refine ww ?_
 refine nq ?_
 refine sq ?_
 refine sr ?_
 iterate 3 refine ww ?_
 refine nq ?_
 refine czz (fun h0 => ?_) fun h0 => ?_
 ·
  have hE1 : cptR xs = xs := by
   have h9 : (n : Int) < 2 := of_decide_eq_true h0
   match xs, hl with
   | [], _ => rfl
   | [x], _ => rfl
   | _ :: _ :: _, hl => simp at hl; omega
  refine sr ?_
  iterate 2 refine ww ?_
  refine nq ?_
  refine rtn ?_
  refine q_then_ret ?_
  refine q_ret (hR := ?_)
  exact fun w hS => ⟨(), trivial, by rw [hE1, hl]; rfl, by rw [hE1, hl]; exact hS.sub slz_⟩
 ·
  have hn2 : 2 ≤ n := by have h9 : ¬ (n : Int) < 2 := of_decide_eq_false h0; omega
  refine skp ?_
  refine q_seq ?_
  refine sq ?_
  refine sr ?_
  refine ww ?_
  refine WL.cut (by repeat (first | exact Cut.nil | apply Cut.hit | apply Cut.miss (by exact rfl))) ?_
  refine nq ?_
  refine bk ?_
  refine lp (X := Nat) (I := fun k => 1 ≤ k ∧ k ≤ n ∧ PfR xs k) (le := fun k => [(0, .slice A n c), (3, .int .i64 k)]) (Le := fun _ => .own A c 90 5 n (xs.map Rp.enc) :: R) (μ := fun k => n - k) 1 ⟨Nat.le_refl _, by omega, pfR_start (by omega)⟩ sbz_ slz_ (fun k hk => ?_)
  obtain ⟨hk1, hk2, hkp⟩ := hk
  refine sq ?_
  refine sr ?_
  iterate 4 refine ww ?_
  refine nq ?_
  refine czz (fun h1 => ?_) fun h1 => ?_
  ·
   have hkn : k < n := by simp only [decide_eq_true_eq] at h1; omega
   obtain ⟨x, hx⟩ : ∃ x, xs[k]? = some x := ⟨_, List.getElem?_eq_getElem (by omega)⟩
   obtain ⟨p, hp⟩ : ∃ p, xs[k - 1]? = some p := ⟨_, List.getElem?_eq_getElem (by omega)⟩
   have hxm := List.mem_of_getElem? hx
   have hpm := List.mem_of_getElem? hp
   have hxe := rp_at hx
   have hpe : (xs.map Rp.enc)[((k : Int) - 1).toNat]? = some p.enc := by rw [show ((k : Int) - 1).toNat = k - 1 by omega]; exact map_atR hp
   refine skp ?_
   refine q_seq ?_
   refine sq ?_
   refine bk ?_
   refine sq ?_
   refine rgD (by kernel_rfl) [(4194304, .own A c 90 5 n (xs.map Rp.enc))] (by repeat (first | exact HS.nil | (apply HS.keep; (repeat (first | exact At.here | apply At.there))) | (apply HS.ro; (repeat (first | exact Rds.ro | exact Rds.own | apply Rds.there))))) (h := ?_)
   refine tw 0 ?_
   refine tw 1 ?_
   refine tk 2 (hy := ix (A := A) (m := n)) (h := ?_)
   refine tk 3 (hy := ldEA (A := A) (hk := hxe)) (h := ?_)
   refine tw 4 ?_
   refine tw 5 ?_
   refine tw 6 ?_
   refine tk 7 (hy := ix (A := A) (m := n)) (h := ?_)
   refine tk 8 (hy := ldEA (A := A) (hk := hpe)) (h := ?_)
   refine tk 9 (hy := (Yd.to (v' := .bool (decide (x = p))) eqlF (by show Value.bool (decide (rpF x = rpF p)) = _; rw [dec_rp]))) (h := ?_)
   refine dn (h := ?_)
   refine q_seq ?_
   refine czz (fun h2 => ?_) fun h2 => ?_
   ·
    have hxp : x = p := of_decide_eq_true h2
    have hs0 := CPR.start hk1 hkp hx hp hxp
    refine sr ?_
    iterate 2 refine ww ?_
    refine wy (slV (A := A) (m := n) (cap := c) (lo' := k) (hi' := n) (hh := .inl ⟨rfl, rfl⟩) (hl := .inr ⟨_, _, _, rfl, rfl, by omega, by omega, by omega⟩)) ?_
    refine ww ?_
    refine nq ?_
    refine sq ?_
    refine sr ?_
    refine ww ?_
    refine WL.cut (by repeat (first | exact Cut.nil | apply Cut.hit | apply Cut.miss (by exact rfl))) ?_
    refine nq ?_
    refine bk ?_
    refine lp (X := CPR) (I := fun z => z.Ok xs k) (le := fun z => [(0, .slice A n c), (3, .int .i64 z.k), (4, .slice (if c = k then A else A.map (·.add (k * 5))) (n - k) (c - k)), (5, .int .i64 z.k2)]) (Le := fun z => .own A c 90 5 n (z.zs.map Rp.enc) :: R) (μ := fun z => n - z.k2) ⟨k, 1, xs⟩ hs0 sbz_ slz_ (fun z hzo => ?_)
    have hzl : z.zs.length = n := hzo.len.trans hl
    have hzlt := hzo.lt
    have hzle := hzo.le
    have hzk2 := hzo.k2
    refine sq ?_
    refine sr ?_
    iterate 4 refine ww ?_
    refine nq ?_
    refine czz (fun h3 => ?_) fun h3 => ?_
    ·
     have hjn : k + z.k2 < n := by simp only [decide_eq_true_eq] at h3; omega
     obtain ⟨y, hy⟩ : ∃ y, xs[k + z.k2]? = some y := ⟨_, List.getElem?_eq_getElem (by omega)⟩
     obtain ⟨q, hq⟩ : ∃ q, xs[k + z.k2 - 1]? = some q := ⟨_, List.getElem?_eq_getElem (by omega)⟩
     have hym := List.mem_of_getElem? hy
     have hqm := List.mem_of_getElem? hq
     have hyz : z.zs[k + z.k2]? = some y := by rw [hzo.dr _ (by omega)]; exact hy
     have hqz : z.zs[k + z.k2 - 1]? = some q := by rw [hzo.dr _ (by omega)]; exact hq
     have hye := from_atR (k0 := k) hzl hyz
     have hqe : (((z.zs.map Rp.enc).drop k).take (n - k))[((z.k2 : Int) - 1).toNat]? = some q.enc := by
      rw [show ((z.k2 : Int) - 1).toNat = z.k2 - 1 by omega]
      exact from_atR (k0 := k) hzl (by rw [show k + (z.k2 - 1) = k + z.k2 - 1 by omega]; exact hqz)
     refine skp ?_
     refine q_seq ?_
     refine sq ?_
     refine bk ?_
     refine sq ?_
     refine rgD (by kernel_rfl) [(4194304, .own A c 90 5 n (z.zs.map Rp.enc))] (by repeat (first | exact HS.nil | (apply HS.keep; (repeat (first | exact At.here | apply At.there))) | (apply HS.ro; (repeat (first | exact Rds.ro | exact Rds.own | apply Rds.there))))) (h := ?_)
     refine tw 0 ?_
     refine tw 1 ?_
     refine tk 2 (hy := ix (A := if c = k then A else A.map (·.add (k * 5))) (m := n - k) (hr := Rds.any fun w hw => rd_fromR hroom.1 (by omega) hw)) (h := ?_)
     refine tk 3 (hy := ldEA (A := if c = k then A else A.map (·.add (k * 5))) (hr := Rds.any fun w hw => rd_fromR hroom.1 (by omega) hw) (hk := hye)) (h := ?_)
     refine tw 4 ?_
     refine tw 5 ?_
     refine tw 6 ?_
     refine tk 7 (hy := ix (A := if c = k then A else A.map (·.add (k * 5))) (m := n - k) (hr := Rds.any fun w hw => rd_fromR hroom.1 (by omega) hw)) (h := ?_)
     refine tk 8 (hy := ldEA (A := if c = k then A else A.map (·.add (k * 5))) (hr := Rds.any fun w hw => rd_fromR hroom.1 (by omega) hw) (hk := hqe)) (h := ?_)
     refine tk 9 (hy := (Yd.to (v' := .bool (!decide (y = q))) neqF (by show Value.bool (!decide (rpF y = rpF q)) = _; rw [dec_rp]))) (h := ?_)
     refine dn (h := ?_)
     refine q_seq ?_
     refine czz (fun h4 => ?_) fun h4 => ?_
     ·
      have hyq : ¬ y = q := by
       have h9 : (!decide (y = q)) = true := h4
       simpa using h9
      have hnz := CPR.keep hzo hy hq hyq
      refine sr ?_
      iterate 4 refine ww ?_
      refine wy (ix (A := if c = k then A else A.map (·.add (k * 5))) (m := n - k) (hr := Rds.any fun w hw => rd_fromR hroom.1 (by omega) hw)) ?_
      refine wy (ldEA (A := if c = k then A else A.map (·.add (k * 5))) (hr := Rds.any fun w hw => rd_fromR hroom.1 (by omega) hw) (hk := hye)) ?_
      refine wy (ix (A := A) (m := n)) ?_
      refine stEW (k := z.k) (vs := y.enc) (h := ?_)
      rw [← List.map_set]
      refine nq ?_
      refine rg ?_
      iterate 3 refine ww ?_
      refine WL.cut (by repeat (first | exact Cut.nil | apply Cut.hit | apply Cut.miss (by exact rfl))) ?_
      refine nl ?_
      refine q_blk_norm ?_
      refine q_seq ?_
      refine rg ?_
      iterate 3 refine ww ?_
      refine WL.cut (by repeat (first | exact Cut.nil | apply Cut.hit | apply Cut.miss (by exact rfl))) ?_
      refine nl ?_
      first
       | refine rn (x := z) ⟨z.k + 1, z.k2 + 1, z.zs.set z.k y⟩ hnz (by dsimp only; omega) sbz_ slz_
       | refine rn (x := z) ⟨z.k, z.k2 + 1, z.zs⟩ hnz (by dsimp only; omega) sbz_ slz_
     ·
      have hyq : y = q := by
       have h9 : (!decide (y = q)) = false := h4
       simpa using h9
      have hnz := CPR.skip hzo hy hq hyq
      refine skp ?_
      refine q_blk_norm ?_
      refine q_seq ?_
      refine rg ?_
      iterate 3 refine ww ?_
      refine WL.cut (by repeat (first | exact Cut.nil | apply Cut.hit | apply Cut.miss (by exact rfl))) ?_
      refine nl ?_
      first
       | refine rn (x := z) ⟨z.k + 1, z.k2 + 1, z.zs.set z.k y⟩ hnz (by dsimp only; omega) sbz_ slz_
       | refine rn (x := z) ⟨z.k, z.k2 + 1, z.zs⟩ hnz (by dsimp only; omega) sbz_ slz_
    ·
     have hjn : k + z.k2 = xs.length := by simp only [decide_eq_false_iff_not] at h3; omega
     have hfin := CPR.fin hzo hjn
     refine et ?_
     iterate 2 refine q_then_exit ?_
     refine q_blk_hit ?_
     refine q_seq ?_
     refine sr ?_
     iterate 2 refine ww ?_
     refine wy (slV (A := A) (m := n) (cap := c) (lo' := z.k) (hi' := n) (hh := .inl ⟨rfl, rfl⟩) (hl := .inr ⟨_, _, _, rfl, rfl, by omega, by omega, by omega⟩)) ?_
     refine clrS (lo := z.k) (hlo := by omega) (h := fun es' hes' => ?_)
     refine nq ?_
     refine sq ?_
     refine WC.shrink .here (m := z.k) (by omega) ?_
     refine rg ?_
     iterate 2 refine ww ?_
     refine wy (slP (A := A) (m := n) (cap := c) (hi' := z.k) (hc := by omega)) ?_
     refine ww ?_
     refine nq ?_
     refine rtn ?_
     refine q_blk_ret ?_
     iterate 2 refine q_then_ret ?_
     refine q_blk_ret ?_
     refine q_then_ret ?_
     refine q_ret (hR := ?_)
     have hlk : (cptR xs).length = z.k := by rw [hfin, List.length_take]; omega
     rw [hes', ← List.map_take, ← hfin]
     exact fun w hS => ⟨(), trivial, by rw [hlk]; rfl, by rw [hlk]; exact hS.sub slz_⟩
   ·
    have hxp : ¬ x = p := of_decide_eq_false h2
    have hnx := pfR_step hk1 hkp hx hp hxp
    refine skp ?_
    refine q_blk_norm ?_
    refine q_seq ?_
    refine rg ?_
    iterate 3 refine ww ?_
    refine WL.cut (by repeat (first | exact Cut.nil | apply Cut.hit | apply Cut.miss (by exact rfl))) ?_
    refine nl ?_
    refine rn (x := k) (k + 1) ⟨by omega, by omega, hnx⟩ (by omega) sbz_ slz_
  ·
   have hkn : k = xs.length := by simp only [decide_eq_false_iff_not] at h1; omega
   have hE1 : cptR xs = xs := pfR_end (hkn ▸ hkp)
   refine et ?_
   iterate 2 refine q_then_exit ?_
   refine q_blk_hit ?_
   refine q_seq ?_
   refine sr ?_
   iterate 2 refine ww ?_
   refine nq ?_
   refine rtn ?_
   refine q_ret (hR := ?_)
   exact fun w hS => ⟨(), trivial, by rw [hE1, hl]; rfl, by rw [hE1, hl]; exact hS.sub slz_⟩

theorem C_once1 (x y : Rp) (hx : RpB x) (hy : RpB y) (w : World) : C0 Tryz.prog 84 [x.val, y.val] w (.int .i64 (x.id - y.id)) := by
 unfold RpB at hx hy
 refine ⟨en Tryz.func84 Tryz.ntmps84 (St.init w) (h := fun F => ?_)⟩
 refine sr ?_
 refine bxA (h := fun b0 => ?_)
 refine bxA (h := fun b1 => ?_)
 refine ww ?_
 refine nr ?_
 iterate 6 refine ww ?_
 refine nq ?_
 refine rtn ?_
 refine q_ret (hR := ?_)
 exact fun w hS => ⟨rfl, hS.sub slz_⟩
theorem idS_eq (l : List Rp) : srtG (fun x y => decide (x.id - y.id < 0)) l = idS l := by
 have : (fun x y : Rp => decide (x.id - y.id < 0)) = fun x y => decide (x.id < y.id) := funext fun x => funext fun y => decide_eq_decide.2 (by omega)
 rw [idS, this]
theorem strict_ne {l : List Rp} (h : Strict l) {k : Nat} {x p : Rp} (hk : 1 ≤ k) (hx : l[k]? = some x) (hp : l[k - 1]? = some p) : ¬ x.id = p.id := by
 have h1 := (List.getElem?_eq_some_iff.1 hx).1
 have := List.pairwise_iff_getElem.1 h (k - 1) k (by omega) h1 (by omega)
 rw [List.getElem?_eq_getElem (by omega)] at hx hp
 rw [Option.some.inj hx, Option.some.inj hp] at this
 omega
set_option maxHeartbeats 1000000 in
theorem C_rank_once (l : List Rp) (A : Option Addr) (n c : Nat) (hlen : l.length = n) (hn : n ≤ 19) (hb : ∀ r ∈ l, RpB r) (hc : ¬ Clash l) (w : World) (h : Rd w A 5 n (l.map Rp.enc)) :
  CR Tryz.prog 41 [.slice A n c] w (fun _ : Option Addr × Nat => True) (fun x => .tuple #[.slice x.1 (oncV l).length x.2, .bool true]) (fun x => [.own x.1 x.2 90 5 (oncV l).length ((oncV l).map Rp.enc)]) := by
 have hst := onc_strict hc
 have hol := onc_len l
 refine ⟨en Tryz.func41 Tryz.ntmps41 ((St.init w).share (e := .ro A 5 n (l.map Rp.enc)) h rfl rfl rfl) (h := fun F => ?_)⟩
 refine sr ?_
 iterate 2 refine ww ?_
 refine nr ?_
 refine ww ?_
 refine cl (hc := fun w hS => C_CloneRp A n c _ w (hS.get rdz_) (by omega)) (h := fun x0 _ => ?_)
 refine ww ?_
 refine nr ?_
 refine ww ?_
 refine clT (hc := T_sortStableR 84 inferInstance (fun x y => x.id - y.id) RpB C_once1 l x0.1 n x0.2 hlen hn hb) (hs := (by repeat (first | exact Spl.nil | (apply Spl.cons; (repeat (first | exact At.here | apply At.there)))))) (h := fun _ _ => ?_)
 rw [idS_eq]
 refine nr ?_
 refine ww ?_
 refine clT (hc := T_CompactR (idS l) x0.1 n x0.2 (by rw [idS, srtG_len]; exact hlen) (by omega)) (hs := (by repeat (first | exact Spl.nil | (apply Spl.cons; (repeat (first | exact At.here | apply At.there)))))) (h := fun _ _ => ?_)
 rw [show cptR (idS l) = oncV l from rfl]
 refine ww ?_
 refine nq ?_
 refine sq ?_
 refine sr ?_
 refine ww ?_
 refine nq ?_
 refine bk ?_
 refine lp (X := Nat) (I := fun k => 1 ≤ k ∧ (k ≤ (oncV l).length ∨ k = 1)) (le := fun k => [(4, .slice x0.1 (oncV l).length x0.2), (5, .int .i64 k)]) (Le := fun _ => [.own x0.1 x0.2 90 5 (oncV l).length ((oncV l).map Rp.enc)]) (μ := fun k => (oncV l).length + 1 - k) 1 ⟨Nat.le_refl _, .inr rfl⟩ sbz_ slz_ (fun k hk => ?_)
 obtain ⟨hk1, hk2⟩ := hk
 refine sq ?_
 refine sr ?_
 iterate 4 refine ww ?_
 refine nq ?_
 refine czz (fun h0 => ?_) fun h0 => ?_
 ·
  have hkn : k < (oncV l).length := by have := of_decide_eq_true h0; omega
  obtain ⟨x, hx⟩ : ∃ x, (oncV l)[k]? = some x := ⟨_, List.getElem?_eq_getElem hkn⟩
  obtain ⟨p, hp⟩ : ∃ p, (oncV l)[k - 1]? = some p := ⟨_, List.getElem?_eq_getElem (by omega)⟩
  have hne := strict_ne hst hk1 hx hp
  have hpe : ((oncV l).map Rp.enc)[((k : Int) - 1).toNat]? = some p.enc := by rw [show ((k : Int) - 1).toNat = k - 1 by omega]; exact map_atR hp
  refine skp ?_
  refine q_seq ?_
  refine sq ?_
  refine bk ?_
  refine sq ?_
  refine rgD0 (by kernel_rfl) (h := ?_)
  refine tw 0 ?_
  refine tw 1 ?_
  refine tk 2 (hy := ix (A := x0.1) (m := (oncV l).length)) (h := ?_)
  refine tk 3 (hy := faE (A := x0.1)) (h := ?_)
  refine tk 4 (hy := ldE (A := x0.1) (hk := map_atR hx)) (h := ?_)
  refine tw 5 ?_
  refine tw 6 ?_
  refine tw 7 ?_
  refine tk 8 (hy := ix (A := x0.1) (m := (oncV l).length)) (h := ?_)
  refine tk 9 (hy := faE (A := x0.1)) (h := ?_)
  refine tk 10 (hy := ldE (A := x0.1) (hk := hpe)) (h := ?_)
  refine tk 11 (hy := (Yd.fl (eql) (by exact decide_eq_false hne))) (h := ?_)
  refine dn (h := ?_)
  refine q_seq ?_
  refine cdF (h := ?_)
  refine skp ?_
  refine q_blk_norm ?_
  refine q_seq ?_
  refine rg ?_
  iterate 3 refine ww ?_
  refine nl ?_
  refine rn (x := k) (k + 1) ⟨by omega, by omega⟩ (by omega) sbz_ slz_
 ·
  refine et ?_
  iterate 2 refine q_then_exit ?_
  refine q_blk_hit ?_
  refine q_seq ?_
  refine sr ?_
  iterate 3 refine ww ?_
  refine nq ?_
  refine rtn ?_
  refine q_ret (hR := ?_)
  exact fun w hS => ⟨(x0.1, x0.2), trivial, rfl, hS.sub slz_⟩
end Go.Proofs.YthkliiifllhacaaGreat

namespace Go.Proofs.YthkliiifllhacaaGreat
open Go Go.RowKit

theorem T_IndexAb {A : Option Addr} {n c : Nat} {es : List (List Value)} {g : FuncId} (hg : FnOk Tryz.prog g) (fi cap : List Value) (Lp : List Ent) (p : Nat → Bool) (hn : n ≤ 9223372036854775807)
  (hp : ∀ k cs, es[k]? = some cs → Tr Tryz.prog g (fi ++ [.agg cs.toArray] ++ cap) (.ro A 3 n es :: Lp) (fun _ : Unit => True) (fun _ => .bool (p k)) (fun _ => .ro A 3 n es :: Lp)) :
  Tr Tryz.prog 169 [.slice A n c, .func (.func g) fi.toArray cap.toArray] (.ro A 3 n es :: Lp) (Fst p n) (fun j => .int .i64 j) (fun _ => .ro A 3 n es :: Lp) := by
 refine ⟨fun w0 w R hst => ?_⟩
 have hlen : es.length = n := (hst.ok (.ro A 3 n es) (by simp)).len
 refine en Tryz.func169 Tryz.ntmps169 hst (h := fun F => ?_)
 refine sr ?_
 refine ww ?_
 refine nq ?_
 refine sq ?_
 refine sr ?_
 iterate 3 refine ww ?_
 refine nq ?_
 refine bk ?_
 refine lp (X := Nat) (I := fun k => k ≤ n ∧ ∀ i, i < k → p i = false) (le := fun k => [(0, .slice A n c), (1, .func (.func g) fi.toArray cap.toArray), (7, .int .i64 n), (8, .int .i64 k)]) (Le := fun _ => .ro A 3 n es :: (Lp ++ R)) (μ := fun k => n - k) 0 ⟨by omega, fun i hi => by omega⟩ sbz_ (SubL.refl _) (fun k hk => ?_)
 obtain ⟨hk, hall⟩ := hk
 refine sr ?_
 refine ww ?_
 refine nq ?_
 refine sq ?_
 refine czz (fun h0 => ?_) fun h0 => ?_
 ·
  have hkn : k < n := by simp only [decide_eq_true_eq] at h0; omega
  have hes : es[k]? = some es[k] := List.getElem?_eq_getElem (by omega)
  refine skp ?_
  refine q_seq ?_
  refine sq ?_
  refine bk ?_
  refine sr ?_
  iterate 2 refine ww ?_
  refine nr ?_
  iterate 3 refine ww ?_
  refine wy ix ?_
  refine wy (ldEW (k := k) (cs := es[k]) (hk := hes)) ?_
  refine clfT hg (fi := fi) (cap := cap) (by exact rfl) (by repeat (first | exact Evs.nil | (apply Evs.cons; exact rfl))) (hp k _ hes) rfl (Spl.cons .here (Spl.app _ _)) (h := fun _ _ => ?_)
  refine nq ?_
  refine czz (fun h1 => ?_) fun h1 => ?_
  ·
   refine sr ?_
   iterate 2 refine ww ?_
   refine nq ?_
   refine rtn ?_
   refine q_blk_ret ?_
   iterate 2 refine q_then_ret ?_
   refine q_blk_ret ?_
   refine q_then_ret ?_
   refine q_ret (hR := ?_)
   exact fun w hS => ⟨_, .inl ⟨k, hkn, rfl, by assumption, hall⟩, rfl, hS⟩
  ·
   refine skp ?_
   refine q_blk_norm ?_
   refine q_seq ?_
   refine rg ?_
   iterate 2 refine ww ?_
   refine nl ?_
   refine rn (k + 1) ⟨by omega, fun i hi => ?_⟩ (by omega) sbz_ (SubL.refl _)
   rcases Nat.lt_succ_iff_lt_or_eq.1 hi with h | rfl
   ·
    exact hall i h
   ·
    assumption
 ·
  have hkn : k = n := by simp only [decide_eq_false_iff_not] at h0; omega
  refine et ?_
  iterate 2 refine q_then_exit ?_
  refine q_blk_hit ?_
  refine q_seq ?_
  refine sr ?_
  refine ww ?_
  refine nq ?_
  refine rtn ?_
  refine q_ret (hR := ?_)
  exact fun w hS => ⟨_, .inr ⟨rfl, by subst hkn; exact hall⟩, rfl, hS⟩
theorem T_ContainsAb {A : Option Addr} {n c : Nat} {es : List (List Value)} {g : FuncId} (hg : FnOk Tryz.prog g) (fi cap : List Value) (Lp : List Ent) (p : Nat → Bool) (hn : n ≤ 9223372036854775807)
  (hp : ∀ k cs, es[k]? = some cs → Tr Tryz.prog g (fi ++ [.agg cs.toArray] ++ cap) (.ro A 3 n es :: Lp) (fun _ : Unit => True) (fun _ => .bool (p k)) (fun _ => .ro A 3 n es :: Lp)) :
  Tr Tryz.prog 108 [.slice A n c, .func (.func g) fi.toArray cap.toArray] (.ro A 3 n es :: Lp) (fun _ : Unit => True) (fun _ => .bool ((List.range n).any p)) (fun _ => .ro A 3 n es :: Lp) := by
 refine ⟨fun w0 w R hst => ?_⟩
 refine en Tryz.func108 Tryz.ntmps108 hst (h := fun F => ?_)
 refine sr ?_
 refine ww ?_
 refine nr ?_
 iterate 2 refine ww ?_
 refine clT (hc := T_IndexAb hg fi cap Lp p hn hp) (hs := Spl.cons .here (Spl.app _ _)) (h := fun x0 hx0 => ?_)
 iterate 2 refine ww ?_
 refine nq ?_
 refine rtn ?_
 refine q_ret (hR := ?_)
 exact fun w hS => ⟨(), trivial, by simp only [resV, hx0.any], hS⟩

theorem ab_at {xs : List Ab} {k : Nat} {x : Ab} (h : xs[k]? = some x) : (xs.map Ab.enc)[k]? = some x.enc := map_atR h
theorem LgR.old {w0 w : World} {L : List Ent} {l : Lg} {a : LgA} (h : LgR w0 l a) (hS : St w0 w L) : LgR w l a := ⟨(hS.old h.r).get, (hS.old h.b).get, (hS.old h.f).get, h.rn, h.bn, h.fn⟩
theorem C_rank_within (n lo hi : Int) (w : World) : C0 Tryz.prog 68 [.int .i64 n, .int .i64 lo, .int .i64 hi] w (.bool (wi n lo hi)) := by
 refine ⟨en Tryz.func68 Tryz.ntmps68 (St.init w) (h := fun F => ?_)⟩
 refine sr ?_
 refine ww ?_
 refine nr ?_
 iterate 4 refine ww ?_
 apply brAnd 4 10 14 (by exact rfl)
 ·
  intro hb0
  iterate 3 refine uw ?_
  refine ww ?_
  exact mg (by repeat (first | exact trivial | refine ⟨rfl, ?_⟩ | refine ⟨by rw [hb0]; rfl, ?_⟩)) slz_
 ·
  intro hb0
  repeat (first | refine uz ?_ | refine kz ?_ | refine wz ?_)
  exact mg (by repeat (first | exact trivial | refine ⟨rfl, ?_⟩ | refine ⟨by rw [hb0]; rfl, ?_⟩)) slz_
 refine ww ?_
 refine nq ?_
 refine rtn ?_
 refine q_ret (hR := ?_)
 exact fun w hS => ⟨rfl, hS.sub slz_⟩
def AbB (n : Int) (a : Ab) : Prop := (0 ≤ a.pl ∧ a.pl ≤ n - 1) ∧ a.fr ≤ a.to ∧ (0 ≤ a.fr ∧ a.fr ≤ 400) ∧ 0 ≤ a.to ∧ a.to ≤ 400
theorem T_areLeaves1 (l : Lg) (la : LgA) (b : Nat) (x : Ab) (hp : 1 ≤ l.players ∧ l.players ≤ 16) (hx : AbB l.players x) :
  Tr Tryz.prog 183 [x.val, .pointer (some ⟨b, 0, none⟩)] [.blk b 25 (l.cells la)] (fun _ : Unit => True) (fun _ => .bool false) (fun _ => [.blk b 25 (l.cells la)]) := by
 refine ⟨fun w0 w R hst => ?_⟩
 unfold AbB at hx
 refine en Tryz.func183 Tryz.ntmps183 hst (h := fun F => ?_)
 refine sr ?_
 refine bxA (h := fun b0 => ?_)
 refine ww ?_
 refine nr ?_
 iterate 5 refine ww ?_
 refine cl0 (hc := fun w hS => C_rank_within _ _ _ w) (h := ?_)
 refine wy ((Yd.fl (notB) (by exact wi_not.2 (by omega)))) ?_
 refine ww ?_
 iterate 4 refine uw ?_
 refine uz ?_
 refine wy ((Yd.fl (gtr) (by refine decide_eq_false ?_; omega))) ?_
 iterate 2 refine ww ?_
 iterate 2 refine uw ?_
 refine uz ?_
 refine cl0 (hc := fun w hS => C_rank_within _ _ _ w) (h := ?_)
 refine uz ?_
 refine wy ((Yd.fl (notB) (by exact wi_not.2 (by omega)))) ?_
 iterate 2 refine ww ?_
 iterate 2 refine uw ?_
 refine uz ?_
 refine cl0 (hc := fun w hS => C_rank_within _ _ _ w) (h := ?_)
 refine uz ?_
 refine wy ((Yd.fl (notB) (by exact wi_not.2 (by omega)))) ?_
 iterate 2 refine ww ?_
 refine nq ?_
 refine rtn ?_
 refine q_ret (hR := ?_)
 exact fun w hS => ⟨(), trivial, rfl, hS.sub slz_⟩
theorem C_rank_areLeaves (l : Lg) (la : LgA) (ab : List Ab) (A : Option Addr) (n c : Nat) (hl : ab.length = n) (hn : n ≤ 8) (hp : 1 ≤ l.players ∧ l.players ≤ 16) (hx : ∀ x ∈ ab, AbB l.players x) (w : World) (h : Rd w A 3 n (ab.map Ab.enc)) :
  C0 Tryz.prog 125 [l.val la, .slice A n c] w (.bool true) := by
 refine ⟨en Tryz.func125 Tryz.ntmps125 ((St.init w).share (e := .ro A 3 n (ab.map Ab.enc)) h rfl rfl rfl) (h := fun F => ?_)⟩
 refine sr ?_
 refine bxA (h := fun b0 => ?_)
 refine ww ?_
 refine nr ?_
 iterate 2 refine ww ?_
 refine wy ((Yd.tr (leq) (by refine decide_eq_true ?_; omega))) ?_
 refine ww ?_
 iterate 2 refine uw ?_
 refine uz ?_
 refine clT (hc := T_ContainsAb (A := A) (n := n) (c := c) (es := ab.map Ab.enc) (g := 183) inferInstance [] [.pointer (some ⟨b0, 0, none⟩)] [.blk b0 25 (l.cells la)] (fun _ => false) (by omega) (fun k cs hk => by
  obtain ⟨y, hyk, rfl⟩ := enc_at hk
  exact Tr.frame1 (T_areLeaves1 l la b0 y hp (hx y (List.mem_of_getElem? hyk))))) (hs := (by repeat (first | exact Spl.nil | (apply Spl.cons; (repeat (first | exact At.here | apply At.there)))))) (h := fun _ _ => ?_)
 rw [show (List.range n).any (fun _ => false) = false from List.any_eq_false.2 fun _ _ => by decide]
 refine uw ?_
 iterate 2 refine ww ?_
 refine nq ?_
 refine rtn ?_
 refine q_ret (hR := ?_)
 exact fun w hS => ⟨rfl, hS.sub slz_⟩
theorem T_isLedger1 (x y : Ab) (b : Nat) :
  Tr Tryz.prog 126 [y.val, .pointer (some ⟨b, 0, none⟩)] [.blk b 115 x.enc] (fun _ : Unit => True) (fun _ => .bool (meetA x y)) (fun _ => [.blk b 115 x.enc]) := by
 refine ⟨fun w0 w R hst => ?_⟩
 refine en Tryz.func126 Tryz.ntmps126 hst (h := fun F => ?_)
 refine sr ?_
 refine bxA (h := fun b0 => ?_)
 refine ww ?_
 refine nr ?_
 iterate 6 refine ww ?_
 apply brAnd 6 9 15 (by exact rfl)
 ·
  intro hb0
  iterate 5 refine uw ?_
  refine ww ?_
  exact mg (by repeat (first | exact trivial | refine ⟨rfl, ?_⟩ | refine ⟨by rw [hb0]; rfl, ?_⟩)) slz_
 ·
  intro hb0
  repeat (first | refine uz ?_ | refine kz ?_ | refine wz ?_)
  exact mg (by repeat (first | exact trivial | refine ⟨rfl, ?_⟩ | refine ⟨by rw [hb0]; rfl, ?_⟩)) slz_
 refine ww ?_
 apply brAnd 6 16 22 (by exact rfl)
 ·
  intro hb1
  iterate 5 refine uw ?_
  refine ww ?_
  exact mg (by repeat (first | exact trivial | refine ⟨rfl, ?_⟩ | refine ⟨by rw [hb1]; rfl, ?_⟩)) slz_
 ·
  intro hb1
  repeat (first | refine uz ?_ | refine kz ?_ | refine wz ?_)
  exact mg (by repeat (first | exact trivial | refine ⟨rfl, ?_⟩ | refine ⟨by rw [hb1]; rfl, ?_⟩)) slz_
 refine ww ?_
 refine nq ?_
 refine rtn ?_
 refine q_ret (hR := ?_)
 exact fun w hS => ⟨(), trivial, rfl, hS.sub slz_⟩
set_option maxHeartbeats 1000000 in
theorem C_rank_isLedger (l : Lg) (a : LgA) (hG : LedG l) (w : World) (h : LgR w l a) : C0 Tryz.prog 80 [l.val a] w (.bool true) := by
 have hp := hG.p
 have hcn := hG.c
 have hrl := hG.rl
 have hbl := hG.bl
 have hfl := hG.fl
 have hfc := h.fn
 have hb2 : ∀ x ∈ l.bs, AbB l.players x := hG.b
 have hf2 : ∀ x ∈ l.fs, AbB l.players x := hG.f
 refine ⟨en Tryz.func80 Tryz.ntmps80 ((((St.init w).share (e := .ro a.rA 5 l.rs.length (l.rs.map Rp.enc)) h.r rfl rfl rfl).share (e := .ro a.bA 3 l.bs.length (l.bs.map Ab.enc)) h.b rfl rfl rfl).share (e := .ro a.fA 3 l.fs.length (l.fs.map Ab.enc)) h.f rfl rfl rfl) (h := fun F => ?_)⟩
 refine sr ?_
 refine bxA (h := fun b0 => ?_)
 refine ww ?_
 refine nq ?_
 refine sq ?_
 refine sr ?_
 iterate 2 refine ww ?_
 refine cl0 (hc := fun w hS => C_rank_within _ _ _ w) (h := ?_)
 refine wy ((Yd.fl (notB) (by exact wi_not.2 (by omega)))) ?_
 refine ww ?_
 iterate 2 refine uw ?_
 refine uz ?_
 refine cl0 (hc := fun w hS => C_rank_within _ _ _ w) (h := ?_)
 refine uz ?_
 refine wy ((Yd.fl (notB) (by exact wi_not.2 (by omega)))) ?_
 iterate 2 refine ww ?_
 iterate 3 refine uw ?_
 refine uz ?_
 refine wy ((Yd.fl (gtr) (by refine decide_eq_false ?_; omega))) ?_
 refine ww ?_
 refine nq ?_
 refine cdF (h := ?_)
 refine skp ?_
 refine q_seq ?_
 refine sq ?_
 refine sr ?_
 iterate 4 refine ww ?_
 refine nq ?_
 refine bk ?_
 refine lp (X := Nat) (I := fun k => k ≤ l.rs.length) (le := fun k => [(1, .pointer (some ⟨b0, 0, none⟩)), (24, .slice a.rA l.rs.length a.rc), (25, .int .i64 l.rs.length), (26, .int .i64 k)]) (Le := fun _ => [.blk b0 25 (l.cells a), .ro a.rA 5 l.rs.length (l.rs.map Rp.enc), .ro a.bA 3 l.bs.length (l.bs.map Ab.enc), .ro a.fA 3 l.fs.length (l.fs.map Ab.enc)]) (μ := fun k => l.rs.length - k) 0 (Nat.zero_le _) sbz_ slz_ (fun k hk => ?_)
 refine sr ?_
 refine ww ?_
 refine nq ?_
 refine sq ?_
 refine czz (fun h1 => ?_) fun h1 => ?_
 ·
  have hkn : k < l.rs.length := by have := of_decide_eq_true h1; omega
  obtain ⟨x, hx⟩ : ∃ x, l.rs[k]? = some x := ⟨_, List.getElem?_eq_getElem hkn⟩
  have hxr := hG.r x (List.mem_of_getElem? hx)
  refine skp ?_
  refine q_seq ?_
  refine sq ?_
  refine bk ?_
  refine sr ?_
  refine wy (ix (A := a.rA) (m := l.rs.length)) ?_
  refine wy (ldEW (A := a.rA) (k := k) (cs := x.enc) (hk := rp_at hx)) ?_
  refine al (h := fun bR => ?_)
  first | refine stA (h := ?_) | refine stEA (h := ?_)
  refine nr ?_
  iterate 2 refine ww ?_
  refine cl0 (hc := fun w hS => C_rank_within _ _ _ w) (h := ?_)
  refine wy ((Yd.fl (notB) (by exact wi_not.2 (by omega)))) ?_
  refine ww ?_
  iterate 5 refine uw ?_
  refine uz ?_
  refine cl0 (hc := fun w hS => C_rank_within _ _ _ w) (h := ?_)
  refine uz ?_
  refine wy ((Yd.fl (notB) (by exact wi_not.2 (by omega)))) ?_
  iterate 2 refine ww ?_
  iterate 2 refine uw ?_
  refine uz ?_
  refine cl0 (hc := fun w hS => C_rank_within _ _ _ w) (h := ?_)
  refine uz ?_
  refine wy ((Yd.fl (notB) (by exact wi_not.2 (by omega)))) ?_
  iterate 2 refine ww ?_
  iterate 2 refine uw ?_
  refine uz ?_
  refine cl0 (hc := fun w hS => C_rank_within _ _ _ w) (h := ?_)
  refine uz ?_
  refine wy ((Yd.fl (notB) (by exact wi_not.2 (by omega)))) ?_
  refine ww ?_
  refine nq ?_
  refine cdF (h := ?_)
  refine skp ?_
  refine q_blk_norm ?_
  refine q_seq ?_
  refine rg ?_
  iterate 2 refine ww ?_
  refine nl ?_
  refine rn (x := k) (k + 1) hkn (by omega) sbz_ slz_
 ·
  refine et ?_
  iterate 2 refine q_then_exit ?_
  refine q_blk_hit ?_
  refine q_seq ?_
  refine sq ?_
  refine sr ?_
  iterate 3 refine ww ?_
  refine cl0 (hc := fun w hS => C_rank_areLeaves l a l.bs a.bA l.bs.length a.bc rfl hbl hp hb2 w (hS.get rdz_)) (h := ?_)
  refine wy ((Yd.fl (notB) (by rfl))) ?_
  refine ww ?_
  iterate 3 refine uw ?_
  refine uz ?_
  refine cl0 (hc := fun w hS => C_rank_areLeaves l a l.fs a.fA l.fs.length a.fc rfl hfl hp hf2 w (hS.get rdz_)) (h := ?_)
  refine uz ?_
  refine wy ((Yd.fl (notB) (by rfl))) ?_
  refine ww ?_
  refine nq ?_
  refine cdF (h := ?_)
  refine skp ?_
  refine q_seq ?_
  refine sq ?_
  refine sr ?_
  iterate 4 refine ww ?_
  refine nq ?_
  refine bk ?_
  refine lp (X := Nat) (I := fun k => k ≤ l.fs.length) (le := fun k => [(1, .pointer (some ⟨b0, 0, none⟩)), (69, .slice a.fA l.fs.length a.fc), (70, .int .i64 l.fs.length), (71, .int .i64 k)]) (Le := fun _ => [.blk b0 25 (l.cells a), .ro a.rA 5 l.rs.length (l.rs.map Rp.enc), .ro a.bA 3 l.bs.length (l.bs.map Ab.enc), .ro a.fA 3 l.fs.length (l.fs.map Ab.enc)]) (μ := fun k => l.fs.length - k) 0 (Nat.zero_le _) sbz_ slz_ (fun k hk => ?_)
  refine sr ?_
  refine ww ?_
  refine nq ?_
  refine sq ?_
  refine czz (fun h4 => ?_) fun h4 => ?_
  ·
   have hkn : k < l.fs.length := by have := of_decide_eq_true h4; omega
   obtain ⟨y, hy⟩ : ∃ y, l.fs[k]? = some y := ⟨_, List.getElem?_eq_getElem hkn⟩
   have hmt : (List.range k).any (pAt (l.fs.take k) (meetA y)) = false := by
    have h1 := hG.a k hkn
    unfold metAt at h1
    rw [hy] at h1
    have h2 := pAt_any (l.fs.take k) (meetA y)
    rw [List.length_take, Nat.min_eq_left (by omega)] at h2
    rw [h2]; exact h1
   refine skp ?_
   refine q_seq ?_
   refine sq ?_
   refine bk ?_
   refine sr ?_
   refine ww ?_
   refine wy (ix (A := a.fA) (m := l.fs.length)) ?_
   refine wy (ldEW (A := a.fA) (k := k) (cs := y.enc) (hk := ab_at hy)) ?_
   refine al (h := fun bF => ?_)
   refine ww ?_
   first | refine stA (h := ?_) | refine stEA (h := ?_)
   refine nq ?_
   refine sq ?_
   refine WC.pre (A := a.fA) (m := l.fs.length) atz_ k (by omega) ?_
   refine rg ?_
   iterate 3 refine ww ?_
   refine wy (slP (A := a.fA) (m := l.fs.length) (cap := a.fc) (hi' := k) (hc := by omega)) ?_
   refine ww ?_
   refine clT (hc := T_ContainsAb (A := a.fA) (n := k) (c := a.fc) (es := (l.fs.map Ab.enc).take k) (g := 126) inferInstance [] [.pointer (some ⟨bF, 0, none⟩)] [.blk bF 115 y.enc] (pAt (l.fs.take k) (meetA y)) (by omega) (fun j cs hk => by
    rw [← List.map_take] at hk
    obtain ⟨z, hzk, rfl⟩ := enc_at hk
    rw [pAt_eq hzk]
    exact Tr.frame1 (T_isLedger1 y z bF))) (hs := (by repeat (first | exact Spl.nil | (apply Spl.cons; (repeat (first | exact At.here | apply At.there)))))) (h := fun _ _ => ?_)
   rw [hmt]
   refine nq ?_
   refine cdF (h := ?_)
   refine skp ?_
   refine q_blk_norm ?_
   refine q_seq ?_
   refine rg ?_
   iterate 2 refine ww ?_
   refine nl ?_
   refine rn (x := k) (k + 1) hkn (by omega) sbz_ slz_
  ·
   refine et ?_
   iterate 2 refine q_then_exit ?_
   refine q_blk_hit ?_
   refine q_seq ?_
   refine sr ?_
   refine ww ?_
   refine nq ?_
   refine rtn ?_
   refine q_ret (hR := ?_)
   exact fun w hS => ⟨rfl, hS.sub slz_⟩
theorem C_rank_Check (l : Lg) (a : LgA) (hG : LedG l) (hc : ¬ Clash l.rs) (hn : l.rs.length ≤ 19) (w : World) (h : LgR w l a) : C0 Tryz.prog 39 [l.val a] w (.int .i64 0) := by
 refine ⟨en Tryz.func39 Tryz.ntmps39 ((St.init w).share (e := .ro a.rA 5 l.rs.length (l.rs.map Rp.enc)) h.r rfl rfl rfl) (h := fun F => ?_)⟩
 refine sr ?_
 refine bxA (h := fun b0 => ?_)
 refine ww ?_
 refine nq ?_
 refine sq ?_
 refine sr ?_
 refine ww ?_
 refine cl0 (hc := fun w hS => C_rank_isLedger l a hG w (h.old hS)) (h := ?_)
 refine wy ((Yd.fl (notB) (by rfl))) ?_
 refine nq ?_
 refine cdF (h := ?_)
 refine skp ?_
 refine q_seq ?_
 refine sq ?_
 refine sr ?_
 iterate 2 refine ww ?_
 refine cl (hc := fun w hS => C_rank_once l.rs a.rA l.rs.length a.rc rfl hn (fun r hr => hG.rb hr) hc w (hS.get rdz_)) (h := fun x0 _ => ?_)
 iterate 5 refine ww ?_
 refine nr ?_
 refine ww ?_
 refine wy ((Yd.fl (notB) (by rfl))) ?_
 refine nq ?_
 refine cdF (h := ?_)
 refine skp ?_
 refine q_seq ?_
 refine sr ?_
 refine ww ?_
 refine nq ?_
 refine rtn ?_
 refine q_ret (hR := ?_)
 exact fun w hS => ⟨rfl, hS.sub slz_⟩
structure OpZ where
 (b : Nat) (A : Option Addr) (c : Nat)
theorem C_rank_open (l : Lg) (a : LgA) (hG : LedG l) (hc : ¬ Clash l.rs) (hn : l.rs.length ≤ 19) (w : World) (h : LgR w l a) :
  CR Tryz.prog 67 [l.val a] w (fun _ : OpZ => True) (fun x => .tuple #[.pointer (some ⟨x.b, 0, none⟩), .int .i64 0]) (fun x => [.blk x.b 160 (l.open.cells ⟨x.A, a.bA, a.fA, x.c, a.bc, a.fc⟩), .own x.A x.c 90 5 (oncV l.rs).length ((oncV l.rs).map Rp.enc)]) := by
 refine ⟨en Tryz.func67 Tryz.ntmps67 ((St.init w).share (e := .ro a.rA 5 l.rs.length (l.rs.map Rp.enc)) h.r rfl rfl rfl) (h := fun F => ?_)⟩
 refine sr ?_
 refine bxA (h := fun b0 => ?_)
 iterate 2 refine ww ?_
 refine nq ?_
 refine sq ?_
 refine sr ?_
 refine ww ?_
 refine cl0 (hc := fun w hS => C_rank_Check l a hG hc hn w (h.old hS)) (h := ?_)
 refine ww ?_
 refine nr ?_
 refine ww ?_
 refine wy ((Yd.fl (neq) (by rfl))) ?_
 refine nq ?_
 refine cdF (h := ?_)
 refine skp ?_
 refine q_seq ?_
 refine sr ?_
 iterate 2 refine ww ?_
 refine cl (hc := fun w hS => C_rank_once l.rs a.rA l.rs.length a.rc rfl hn (fun r hr => hG.rb hr) hc w (hS.get rdz_)) (h := fun x0 _ => ?_)
 iterate 4 refine ww ?_
 first | refine st (h := ?_) | refine stE (h := ?_)
 refine nr ?_
 iterate 2 refine ww ?_
 refine bxA (h := fun bk => ?_)
 iterate 2 refine ww ?_
 refine nq ?_
 refine rtn ?_
 refine q_ret (hR := ?_)
 exact fun w hS => ⟨⟨bk, x0.1, x0.2⟩, trivial, rfl, hS.sub slz_⟩
theorem C_rank_ask (l : Lg) (a : LgA) (p wk : Int) (hG : LedG l) (hc : ¬ Clash l.rs) (hn : l.rs.length ≤ 19) (hp : 0 ≤ p ∧ p < l.players) (hw : 0 ≤ wk ∧ wk ≤ 400) (w : World) (h : LgR w l a) :
  CR Tryz.prog 33 [l.val a, .int .i64 p, .int .i64 wk] w (fun _ : OpZ => True) (fun x => .tuple #[.pointer (some ⟨x.b, 0, none⟩), .int .i64 0]) (fun x => [.blk x.b 160 (l.open.cells ⟨x.A, a.bA, a.fA, x.c, a.bc, a.fc⟩), .own x.A x.c 90 5 (oncV l.rs).length ((oncV l.rs).map Rp.enc)]) := by
 have hpl := hG.p
 refine ⟨en Tryz.func33 Tryz.ntmps33 (St.init w) (h := fun F => ?_)⟩
 refine sr ?_
 refine bxA (h := fun b0 => ?_)
 iterate 2 refine ww ?_
 refine nr ?_
 refine ww ?_
 refine cl (hc := fun w hS => C_rank_open l a hG hc hn w (h.old hS)) (h := fun x0 _ => ?_)
 iterate 5 refine ww ?_
 refine nq ?_
 refine sq ?_
 refine sr ?_
 refine ww ?_
 refine wy ((Yd.fl (neq) (by rfl))) ?_
 refine nq ?_
 refine cdF (h := ?_)
 refine skp ?_
 refine q_seq ?_
 refine sq ?_
 refine sr ?_
 iterate 4 refine ww ?_
 refine cl0 (hc := fun w hS => C_rank_within _ _ _ w) (h := ?_)
 refine wy ((Yd.fl (notB) (by exact wi_not.2 (by omega)))) ?_
 refine ww ?_
 refine uw ?_
 refine uz ?_
 refine cl0 (hc := fun w hS => C_rank_within _ _ _ w) (h := ?_)
 refine uz ?_
 refine wy ((Yd.fl (notB) (by exact wi_not.2 (by omega)))) ?_
 refine ww ?_
 refine nq ?_
 refine cdF (h := ?_)
 refine skp ?_
 refine q_seq ?_
 refine sr ?_
 iterate 3 refine ww ?_
 refine nq ?_
 refine rtn ?_
 refine q_ret (hR := ?_)
 exact fun w hS => ⟨x0, trivial, rfl, hS.sub slz_⟩
end Go.Proofs.YthkliiifllhacaaGreat

namespace Go.Proofs.YthkliiifllhacaaGreat
open Go Go.RowKit

theorem T_away1 (x : Ab) (p wk : Int) (b1 b2 : Nat) :
  Tr Tryz.prog 109 [x.val, .pointer (some ⟨b1, 0, none⟩), .pointer (some ⟨b2, 0, none⟩)] [.blk b1 3 [.int .i64 p], .blk b2 3 [.int .i64 wk]] (fun _ : Unit => True) (fun _ => .bool (decide (x.pl = p) && wi wk x.fr x.to)) (fun _ => [.blk b1 3 [.int .i64 p], .blk b2 3 [.int .i64 wk]]) := by
 refine ⟨fun w0 w R hst => ?_⟩
 refine en Tryz.func109 Tryz.ntmps109 hst (h := fun F => ?_)
 refine sr ?_
 refine bxA (h := fun b0 => ?_)
 refine ww ?_
 refine nr ?_
 iterate 5 refine ww ?_
 apply brAnd 7 9 16 (by exact rfl)
 ·
  intro hb0
  iterate 5 refine uw ?_
  refine uz ?_
  refine cl0 (hc := fun w hS => C_rank_within _ _ _ w) (h := ?_)
  refine ww ?_
  exact mg (by repeat (first | exact trivial | refine ⟨rfl, ?_⟩ | refine ⟨by rw [hb0]; rfl, ?_⟩)) slz_
 ·
  intro hb0
  repeat (first | refine uz ?_ | refine kz ?_ | refine wz ?_)
  exact mg (by repeat (first | exact trivial | refine ⟨rfl, ?_⟩ | refine ⟨by rw [hb0]; rfl, ?_⟩)) slz_
 refine ww ?_
 refine nq ?_
 refine rtn ?_
 refine q_ret (hR := ?_)
 exact fun w hS => ⟨(), trivial, rfl, hS.sub slz_⟩
theorem C_rank_away (ab : List Ab) (A : Option Addr) (n c : Nat) (p wk : Int) (hl : ab.length = n) (hn : n ≤ 100) (w : World) (h : Rd w A 3 n (ab.map Ab.enc)) : C0 Tryz.prog 70 [.slice A n c, .int .i64 p, .int .i64 wk] w (.bool (awayV ab p wk)) := by
 refine ⟨en Tryz.func70 Tryz.ntmps70 ((St.init w).share (e := .ro A 3 n (ab.map Ab.enc)) h rfl rfl rfl) (h := fun F => ?_)⟩
 refine sr ?_
 refine bx (h := fun b0 => ?_)
 refine bx (h := fun b1 => ?_)
 refine ww ?_
 refine nr ?_
 iterate 2 refine ww ?_
 refine clT (hc := T_ContainsAb (A := A) (n := n) (c := c) (es := ab.map Ab.enc) (g := 109) inferInstance [] [.pointer (some ⟨b0, 0, none⟩), .pointer (some ⟨b1, 0, none⟩)] [.blk b0 3 [.int .i64 p], .blk b1 3 [.int .i64 wk]] (pAt ab fun a => decide (a.pl = p) && wi wk a.fr a.to) (by omega) (fun k cs hk => by
  obtain ⟨y, hyk, rfl⟩ := enc_at hk
  rw [pAt_eq hyk]
  exact Tr.frame1 (T_away1 y p wk b0 b1))) (hs := (by repeat (first | exact Spl.nil | (apply Spl.cons; (repeat (first | exact At.here | apply At.there)))))) (h := fun _ _ => ?_)
 rw [show (List.range n).any (pAt ab fun a => decide (a.pl = p) && wi wk a.fr a.to) = awayV ab p wk by rw [← hl]; exact pAt_any ab _]
 refine ww ?_
 refine nq ?_
 refine rtn ?_
 refine q_ret (hR := ?_)
 exact fun w hS => ⟨rfl, hS.sub slz_⟩
abbrev bkL (B : Lg) (a : LgA) (b : Nat) : List Ent := [.blk b 160 (B.cells a), .own a.rA a.rc 90 5 B.rs.length (B.rs.map Rp.enc), .ro a.bA 3 B.bs.length (B.bs.map Ab.enc), .ro a.fA 3 B.fs.length (B.fs.map Ab.enc)]
structure BkG (B : Lg) : Prop extends LedG B where
 n : B.rs.length ≤ 10
theorem T_age (B : Lg) (a : LgA) (b : Nat) (r : Rp) (wk : Int) (hB : BkG B) (hr : 0 ≤ r.wk ∧ r.wk ≤ 400) (hw : 0 ≤ wk ∧ wk ≤ 400) :
  Tr Tryz.prog 107 [.pointer (some ⟨b, 0, none⟩), r.val, .int .i64 wk] (bkL B a b) (fun _ : Unit => True) (fun _ => .int .i64 (ageV B.fs r wk)) (fun _ => bkL B a b) := by
 refine ⟨fun w0 w R hst => ?_⟩
 have hfl := hB.fl
 have hfb : ∀ x ∈ B.fs, (0 ≤ x.fr ∧ x.fr ≤ 400) ∧ 0 ≤ x.to ∧ x.to ≤ 400 := fun x hx => (hB.f x hx).2.2
 refine en Tryz.func107 Tryz.ntmps107 hst (h := fun F => ?_)
 refine sr ?_
 refine bxA (h := fun b0 => ?_)
 refine ww ?_
 refine nr ?_
 iterate 5 refine ww ?_
 refine nq ?_
 refine sq ?_
 refine sr ?_
 iterate 7 refine ww ?_
 refine nq ?_
 refine bk ?_
 refine lp (X := Nat) (I := fun k => k ≤ B.fs.length) (le := fun k => [(0, .pointer (some ⟨b, 0, none⟩)), (2, .int .i64 wk), (4, .pointer (some ⟨b0, 0, none⟩)), (7, .int .i64 (ageTo B.fs r wk k)), (18, .slice a.fA B.fs.length a.fc), (19, .int .i64 B.fs.length), (20, .int .i64 k)]) (Le := fun _ => .blk b0 90 r.enc :: (bkL B a b ++ R)) (μ := fun k => B.fs.length - k) 0 (Nat.zero_le _) sbz_ slz_ (fun k hk => ?_)
 refine sr ?_
 refine ww ?_
 refine nq ?_
 refine sq ?_
 refine czz (fun h0 => ?_) fun h0 => ?_
 ·
  have hkn : k < B.fs.length := by have := of_decide_eq_true h0; omega
  obtain ⟨x, hx⟩ : ∃ x, B.fs[k]? = some x := ⟨_, List.getElem?_eq_getElem hkn⟩
  have hxb := hfb x (List.mem_of_getElem? hx)
  have hrg := age_rng hfb hr hw k
  have hsu := age_succ (r := r) (wk := wk) hx
  refine skp ?_
  refine q_seq ?_
  refine sq ?_
  refine bk ?_
  refine sr ?_
  refine wy (ix (A := a.fA) (m := B.fs.length)) ?_
  refine wy (ldEW (A := a.fA) (k := k) (cs := x.enc) (hk := ab_at hx)) ?_
  refine al (h := fun bf => ?_)
  first | refine stA (h := ?_) | refine stEA (h := ?_)
  refine nr ?_
  iterate 5 refine ww ?_
  refine nq ?_
  refine czz (fun h1 => ?_) fun h1 => ?_
  ·
   rw [h1, cond_true] at hsu
   refine rg ?_
   iterate 16 refine ww ?_
   refine nl ?_
   refine q_blk_norm ?_
   refine q_seq ?_
   refine rg ?_
   iterate 2 refine ww ?_
   refine nl ?_
   refine rn (x := k) (k + 1) hkn (by omega) (by rw [hsu]; repeat (first | exact trivial | refine ⟨rfl, ?_⟩)) slz_
  ·
   rw [h1, cond_false] at hsu
   refine skp ?_
   refine q_blk_norm ?_
   refine q_seq ?_
   refine rg ?_
   iterate 2 refine ww ?_
   refine nl ?_
   refine rn (x := k) (k + 1) hkn (by omega) (by rw [hsu]; repeat (first | exact trivial | refine ⟨rfl, ?_⟩)) slz_
 ·
  have hkn : k = B.fs.length := by have := of_decide_eq_false h0; omega
  subst hkn
  refine et ?_
  iterate 2 refine q_then_exit ?_
  refine q_blk_hit ?_
  refine q_seq ?_
  refine sr ?_
  iterate 2 refine ww ?_
  refine nq ?_
  refine rtn ?_
  refine q_ret (hR := ?_)
  exact fun w hS => ⟨(), trivial, rfl, hS.sub slz_⟩
structure CoZ where
 (k : Nat) (A : Option Addr) (c : Nat)
theorem rp_snoc (l : List Rp) (r : Rp) : l.map Rp.enc ++ [r.enc] = (l ++ [r]).map Rp.enc := by rw [List.map_append]; rfl
set_option maxRecDepth 100000 in
set_option maxHeartbeats 1000000 in
theorem T_count (B : Lg) (a : LgA) (b : Nat) (p wk : Int) (hB : BkG B) (hw : 0 ≤ wk ∧ wk ≤ 400) :
  Tr Tryz.prog 69 [.pointer (some ⟨b, 0, none⟩), .int .i64 p, .int .i64 wk] (bkL B a b) (fun _ : Option Addr × Nat => True) (fun x => .slice x.1 (couV B p wk).length x.2) (fun x => .own x.1 x.2 90 5 (couV B p wk).length ((couV B p wk).map Rp.enc) :: bkL B a b) := by
 refine ⟨fun w0 w R hst => ?_⟩
 have hbl := hB.bl
 have hrn := hB.n
 refine en Tryz.func69 Tryz.ntmps69 hst (h := fun F => ?_)
 refine sr ?_
 refine ww ?_
 refine nr ?_
 refine ww ?_
 refine nq ?_
 iterate 2 refine sq ?_
 refine WC.nilOwn 90 5 (h := ?_)
 refine rg ?_
 iterate 7 refine ww ?_
 refine nq ?_
 refine bk ?_
 refine lp (X := CoZ) (I := fun z => z.k ≤ B.rs.length) (le := fun z => [(0, .pointer (some ⟨b, 0, none⟩)), (1, .int .i64 p), (2, .int .i64 wk), (7, .slice z.A (couTo B p wk z.k).length z.c), (14, .slice a.rA B.rs.length a.rc), (15, .int .i64 B.rs.length), (16, .int .i64 z.k)]) (Le := fun z => .own z.A z.c 90 5 (couTo B p wk z.k).length ((couTo B p wk z.k).map Rp.enc) :: (bkL B a b ++ R)) (μ := fun z => B.rs.length - z.k) ⟨0, none, 0⟩ (Nat.zero_le _) sbz_ slz_ (fun z hk => ?_)
 refine sr ?_
 refine ww ?_
 refine nq ?_
 refine sq ?_
 refine czz (fun h0 => ?_) fun h0 => ?_
 ·
  have hkn : z.k < B.rs.length := by have := of_decide_eq_true h0; omega
  obtain ⟨x, hx⟩ : ∃ x, B.rs[z.k]? = some x := ⟨_, List.getElem?_eq_getElem hkn⟩
  have hxr := hB.r x (List.mem_of_getElem? hx)
  have hsu := couTo_succ (p := p) (wk := wk) hx
  have hcl : (couTo B p wk z.k).length ≤ 10 := by
   unfold couTo
   have h1 := List.length_filter_le (cntP B p wk) (B.rs.take z.k)
   rw [List.length_take] at h1
   omega
  refine skp ?_
  refine q_seq ?_
  refine sq ?_
  refine bk ?_
  refine sr ?_
  refine wy (ix (A := a.rA) (m := B.rs.length)) ?_
  refine wy (ldEW (A := a.rA) (k := z.k) (cs := x.enc) (hk := rp_at hx)) ?_
  refine al (h := fun br => ?_)
  first | refine stA (h := ?_) | refine stEA (h := ?_)
  refine nq ?_
  refine sq ?_
  refine rgD (by kernel_rfl) [(1000000, .blk br 90 x.enc), (1000000, .blk b 160 (B.cells a))] (by repeat (first | exact HS.nil | (apply HS.keep; (repeat (first | exact At.here | apply At.there))) | (apply HS.ro; (repeat (first | exact Rds.ro | exact Rds.own | apply Rds.there))))) (h := ?_)
  refine tw 0 ?_
  refine tw 1 ?_
  refine tw 2 ?_
  refine tw 3 ?_
  refine tw 4 ?_
  refine brH (g := 24) (by exact rfl) (fun hb1 => ?_) (fun hb1 => ?_)
  ·
   have hg24 : decide (x.pl = p) = true := hb1
   refine tw 5 ?_
   refine tw 6 ?_
   refine tw 7 ?_
   refine tw 8 ?_
   refine tw 9 ?_
   refine tw 10 ?_
   refine brH (g := 30) (by exact rfl) (fun hb2 => ?_) (fun hb2 => ?_)
   ·
    have hg30 : decide (x.wk ≤ wk) = true := hb2
    refine tw 11 ?_
    refine tw 12 ?_
    refine tw 13 ?_
    refine one 14 (h := ?_)
    refine uz ?_
    refine clT (hc := T_age B a b x wk hB hxr.2.2.1 hw) (hs := (by repeat (first | exact Spl.nil | (apply Spl.cons; (repeat (first | exact At.here | apply At.there)))))) (h := fun _ _ => ?_)
    refine nx (h := ?_)
    refine tw 15 ?_
    refine tw 16 ?_
    refine tw 17 ?_
    refine brH (g := 37) (by exact rfl) (fun hb3 => ?_) (fun hb3 => ?_)
    ·
     have hg37 : decide (ageV B.fs x wk < 52) = true := hb3
     refine tw 18 ?_
     refine tw 19 ?_
     refine tw 20 ?_
     refine tw 21 ?_
     refine tw 22 ?_
     refine tw 23 ?_
     refine tw 24 ?_
     refine tw 25 ?_
     refine one 26 (h := ?_)
     refine uz ?_
     refine cl0 (hc := fun w hS => C_rank_away B.bs a.bA B.bs.length a.bc p x.wk rfl (by omega) w (hS.get rdz_)) (h := ?_)
     refine nx (h := ?_)
     refine tw 27 ?_
     refine tw 28 ?_
     refine dn (h := ?_)
     refine q_seq ?_
     refine czz (fun h4 => ?_) fun h4 => ?_
     ·
      have hcp : cntP B p wk x = true := by unfold cntP; rw [hg24, hg30, hg37, h4]; rfl
      rw [hcp, cond_true] at hsu
      have hsl : (couTo B p wk (z.k + 1)).length = (couTo B p wk z.k).length + 1 := by rw [hsu, List.length_append]; rfl
      refine rg ?_
      iterate 2 refine ww ?_
      refine bs (h := fun b0 => ?_)
      refine ap (es := (couTo B p wk z.k).map Rp.enc) (m := (couTo B p wk z.k).length) (k := 1) (A := z.A) (c := z.c) (h := fun A1 c1 => ?_)
      rw [rp_snoc]
      refine ww ?_
      refine nl ?_
      refine q_blk_norm ?_
      refine q_seq ?_
      refine rg ?_
      iterate 2 refine ww ?_
      refine nl ?_
      first
       | refine rn (x := z) ⟨z.k + 1, A1, c1⟩ hkn (by dsimp only; omega) (by dsimp only; rw [hsl]; repeat (first | exact trivial | refine ⟨rfl, ?_⟩)) (by dsimp only; rw [hsl, hsu]; repeat (first | exact SubL.nil | (apply SubL.cons; (repeat (first | exact At.here | apply At.there))) | exact SubL.refl _ | apply SubL.skip))
       | refine rn (x := z) ⟨z.k + 1, z.A, z.c⟩ hkn (by dsimp only; omega) (by dsimp only; rw [hsu]; repeat (first | exact trivial | refine ⟨rfl, ?_⟩)) (by dsimp only; rw [hsu]; repeat (first | exact SubL.nil | (apply SubL.cons; (repeat (first | exact At.here | apply At.there))) | exact SubL.refl _ | apply SubL.skip))
     ·
      have hcp2 : cntP B p wk x = false := by
       first
        | exact hcp
        | (unfold cntP; rw [show (!awayV B.bs p x.wk) = false by assumption, Bool.and_false])
      rw [hcp2, cond_false] at hsu
      refine skp ?_
      refine q_blk_norm ?_
      refine q_seq ?_
      refine rg ?_
      iterate 2 refine ww ?_
      refine nl ?_
      first
       | refine rn (x := z) ⟨z.k + 1, A1, c1⟩ hkn (by dsimp only; omega) (by dsimp only; rw [hsl]; repeat (first | exact trivial | refine ⟨rfl, ?_⟩)) (by dsimp only; rw [hsl, hsu]; repeat (first | exact SubL.nil | (apply SubL.cons; (repeat (first | exact At.here | apply At.there))) | exact SubL.refl _ | apply SubL.skip))
       | refine rn (x := z) ⟨z.k + 1, z.A, z.c⟩ hkn (by dsimp only; omega) (by dsimp only; rw [hsu]; repeat (first | exact trivial | refine ⟨rfl, ?_⟩)) (by dsimp only; rw [hsu]; repeat (first | exact SubL.nil | (apply SubL.cons; (repeat (first | exact At.here | apply At.there))) | exact SubL.refl _ | apply SubL.skip))
    ·
     have hcp : cntP B p wk x = false := by unfold cntP; rw [show decide (ageV B.fs x wk < 52) = false from hb3]; simp
     refine tkS 18 (h := ?_)
     refine tkS 19 (h := ?_)
     refine tkS 20 (h := ?_)
     refine tkS 21 (h := ?_)
     refine tkS 22 (h := ?_)
     refine tkS 23 (h := ?_)
     refine tkS 24 (h := ?_)
     refine tkS 25 (h := ?_)
     refine tkS 26 (h := ?_)
     refine tkS 27 (h := ?_)
     refine tw 28 ?_
     refine dn (h := ?_)
     refine q_seq ?_
     refine cdF (h := ?_)
     have hcp2 : cntP B p wk x = false := by
      first
       | exact hcp
       | (unfold cntP; rw [show (!awayV B.bs p x.wk) = false by assumption, Bool.and_false])
     rw [hcp2, cond_false] at hsu
     refine skp ?_
     refine q_blk_norm ?_
     refine q_seq ?_
     refine rg ?_
     iterate 2 refine ww ?_
     refine nl ?_
     first
      | refine rn (x := z) ⟨z.k + 1, A1, c1⟩ hkn (by dsimp only; omega) (by dsimp only; rw [hsl]; repeat (first | exact trivial | refine ⟨rfl, ?_⟩)) (by dsimp only; rw [hsl, hsu]; repeat (first | exact SubL.nil | (apply SubL.cons; (repeat (first | exact At.here | apply At.there))) | exact SubL.refl _ | apply SubL.skip))
      | refine rn (x := z) ⟨z.k + 1, z.A, z.c⟩ hkn (by dsimp only; omega) (by dsimp only; rw [hsu]; repeat (first | exact trivial | refine ⟨rfl, ?_⟩)) (by dsimp only; rw [hsu]; repeat (first | exact SubL.nil | (apply SubL.cons; (repeat (first | exact At.here | apply At.there))) | exact SubL.refl _ | apply SubL.skip))
   ·
    have hcp : cntP B p wk x = false := by unfold cntP; rw [show decide (x.wk ≤ wk) = false from hb2]; simp
    refine tkS 11 (h := ?_)
    refine tkS 12 (h := ?_)
    refine tkS 13 (h := ?_)
    refine tkS 14 (h := ?_)
    refine tkS 15 (h := ?_)
    refine tw 16 ?_
    refine tw 17 ?_
    refine tkS 18 (h := ?_)
    refine tkS 19 (h := ?_)
    refine tkS 20 (h := ?_)
    refine tkS 21 (h := ?_)
    refine tkS 22 (h := ?_)
    refine tkS 23 (h := ?_)
    refine tkS 24 (h := ?_)
    refine tkS 25 (h := ?_)
    refine tkS 26 (h := ?_)
    refine tkS 27 (h := ?_)
    refine tw 28 ?_
    refine dn (h := ?_)
    refine q_seq ?_
    refine cdF (h := ?_)
    have hcp2 : cntP B p wk x = false := by
     first
      | exact hcp
      | (unfold cntP; rw [show (!awayV B.bs p x.wk) = false by assumption, Bool.and_false])
    rw [hcp2, cond_false] at hsu
    refine skp ?_
    refine q_blk_norm ?_
    refine q_seq ?_
    refine rg ?_
    iterate 2 refine ww ?_
    refine nl ?_
    first
     | refine rn (x := z) ⟨z.k + 1, A1, c1⟩ hkn (by dsimp only; omega) (by dsimp only; rw [hsl]; repeat (first | exact trivial | refine ⟨rfl, ?_⟩)) (by dsimp only; rw [hsl, hsu]; repeat (first | exact SubL.nil | (apply SubL.cons; (repeat (first | exact At.here | apply At.there))) | exact SubL.refl _ | apply SubL.skip))
     | refine rn (x := z) ⟨z.k + 1, z.A, z.c⟩ hkn (by dsimp only; omega) (by dsimp only; rw [hsu]; repeat (first | exact trivial | refine ⟨rfl, ?_⟩)) (by dsimp only; rw [hsu]; repeat (first | exact SubL.nil | (apply SubL.cons; (repeat (first | exact At.here | apply At.there))) | exact SubL.refl _ | apply SubL.skip))
  ·
   have hcp : cntP B p wk x = false := by unfold cntP; rw [show decide (x.pl = p) = false from hb1]; rfl
   refine tkS 5 (h := ?_)
   refine tkS 6 (h := ?_)
   refine tkS 7 (h := ?_)
   refine tkS 8 (h := ?_)
   refine tw 9 ?_
   refine tw 10 ?_
   refine tkS 11 (h := ?_)
   refine tkS 12 (h := ?_)
   refine tkS 13 (h := ?_)
   refine tkS 14 (h := ?_)
   refine tkS 15 (h := ?_)
   refine tw 16 ?_
   refine tw 17 ?_
   refine tkS 18 (h := ?_)
   refine tkS 19 (h := ?_)
   refine tkS 20 (h := ?_)
   refine tkS 21 (h := ?_)
   refine tkS 22 (h := ?_)
   refine tkS 23 (h := ?_)
   refine tkS 24 (h := ?_)
   refine tkS 25 (h := ?_)
   refine tkS 26 (h := ?_)
   refine tkS 27 (h := ?_)
   refine tw 28 ?_
   refine dn (h := ?_)
   refine q_seq ?_
   refine cdF (h := ?_)
   have hcp2 : cntP B p wk x = false := by
    first
     | exact hcp
     | (unfold cntP; rw [show (!awayV B.bs p x.wk) = false by assumption, Bool.and_false])
   rw [hcp2, cond_false] at hsu
   refine skp ?_
   refine q_blk_norm ?_
   refine q_seq ?_
   refine rg ?_
   iterate 2 refine ww ?_
   refine nl ?_
   first
    | refine rn (x := z) ⟨z.k + 1, A1, c1⟩ hkn (by dsimp only; omega) (by dsimp only; rw [hsl]; repeat (first | exact trivial | refine ⟨rfl, ?_⟩)) (by dsimp only; rw [hsl, hsu]; repeat (first | exact SubL.nil | (apply SubL.cons; (repeat (first | exact At.here | apply At.there))) | exact SubL.refl _ | apply SubL.skip))
    | refine rn (x := z) ⟨z.k + 1, z.A, z.c⟩ hkn (by dsimp only; omega) (by dsimp only; rw [hsu]; repeat (first | exact trivial | refine ⟨rfl, ?_⟩)) (by dsimp only; rw [hsu]; repeat (first | exact SubL.nil | (apply SubL.cons; (repeat (first | exact At.here | apply At.there))) | exact SubL.refl _ | apply SubL.skip))
 ·
  have hkn : z.k = B.rs.length := by have := of_decide_eq_false h0; omega
  have hE : couTo B p wk z.k = couV B p wk := by rw [hkn]; exact couTo_end B p wk
  rw [hE]
  refine et ?_
  iterate 2 refine q_then_exit ?_
  refine q_blk_hit ?_
  refine q_seq ?_
  refine sr ?_
  iterate 2 refine ww ?_
  refine nq ?_
  refine rtn ?_
  refine q_ret (hR := ?_)
  exact fun w hS => ⟨(z.A, z.c), trivial, rfl, hS.sub slz_⟩
theorem C_taken1 (x y : Rp) (hx : RpB x) (hy : RpB y) (w : World) : C0 Tryz.prog 110 [x.val, y.val] w (.int .i64 (cmpT x y)) := by
 unfold RpB at hx hy
 refine ⟨en Tryz.func110 Tryz.ntmps110 (St.init w) (h := fun F => ?_)⟩
 refine sr ?_
 refine bxA (h := fun b0 => ?_)
 refine bxA (h := fun b1 => ?_)
 refine ww ?_
 refine nq ?_
 refine sq ?_
 refine bk ?_
 refine sr ?_
 iterate 4 refine ww ?_
 refine wy neqB ?_
 refine ww ?_
 apply brAnd 3 11 14 (by exact rfl)
 ·
  intro hb0
  iterate 2 refine uw ?_
  refine ww ?_
  exact mg (by repeat (first | exact trivial | refine ⟨rfl, ?_⟩ | refine ⟨by rw [hb0]; rfl, ?_⟩)) slz_
 ·
  intro hb0
  repeat (first | refine uz ?_ | refine kz ?_ | refine wz ?_)
  exact mg (by repeat (first | exact trivial | refine ⟨rfl, ?_⟩ | refine ⟨by rw [hb0]; rfl, ?_⟩)) slz_
 refine ww ?_
 refine nq ?_
 refine czz (fun h1 => ?_) fun h1 => ?_
 ·
  have hE : cmpT x y = -1 := by unfold cmpT; rw [show ((!(x.must == y.must)) && x.must) = true from h1]; rfl
  refine sr ?_
  refine ww ?_
  refine nq ?_
  refine rtn ?_
  refine q_blk_ret ?_
  refine q_then_ret ?_
  refine q_ret (hR := ?_)
  rw [hE]
  exact fun w hS => ⟨rfl, hS.sub slz_⟩
 ·
  have hn1 : ((!(x.must == y.must)) && x.must) = false := h1
  refine sr ?_
  iterate 4 refine ww ?_
  refine wy neqB ?_
  refine ww ?_
  refine nq ?_
  refine czz (fun h2 => ?_) fun h2 => ?_
  ·
   have hE : cmpT x y = 1 := by unfold cmpT; rw [hn1, show (!(x.must == y.must)) = true from h2]; rfl
   refine sr ?_
   refine ww ?_
   refine nq ?_
   refine rtn ?_
   refine q_blk_ret ?_
   refine q_then_ret ?_
   refine q_ret (hR := ?_)
   rw [hE]
   exact fun w hS => ⟨rfl, hS.sub slz_⟩
  ·
   have hE : cmpT x y = orIn [y.pts - x.pts, x.id - y.id] := by unfold cmpT; rw [hn1, show (!(x.must == y.must)) = false from h2]; rfl
   refine skp ?_
   refine q_blk_norm ?_
   refine q_seq ?_
   refine sr ?_
   iterate 10 refine ww ?_
   refine bs (h := fun bo => ?_)
   refine cl0 (hc := fun w hS => C_cmpOr [y.pts - x.pts, x.id - y.id] (some ⟨bo, 0, none⟩) 2 2 w (hS.get rdz_) (by omega)) (h := ?_)
   refine ww ?_
   refine nq ?_
   refine rtn ?_
   refine q_ret (hR := ?_)
   rw [hE]
   exact fun w hS => ⟨rfl, hS.sub slz_⟩
set_option maxHeartbeats 1000000 in
theorem T_taken (B : Lg) (a : LgA) (b : Nat) (all : List Rp) (A : Option Addr) (n c : Nat) (hl : all.length = n) (hn : n ≤ 19) (ha : ∀ r ∈ all, RpB r) (hc : 1 ≤ B.counts ∧ B.counts ≤ 20) :
  Tr Tryz.prog 72 [.pointer (some ⟨b, 0, none⟩), .slice A n c] (.own A c 90 5 n (all.map Rp.enc) :: bkL B a b) (fun _ : Option Addr × Nat => True) (fun x => .slice x.1 (tknV B.counts all).length x.2) (fun x => .own x.1 x.2 90 5 (tknV B.counts all).length ((tknV B.counts all).map Rp.enc) :: .own A c 90 5 n (all.map Rp.enc) :: bkL B a b) := by
 refine ⟨fun w0 w R hst => ?_⟩
 have htl : (takS all).length = n := by rw [← hl]; exact srtG_len _ _
 have hmr := must_rng (takS all) n
 obtain ⟨kk, hkk⟩ : ∃ kk : Nat, min (n : Int) (max (mustN (takS all) n) B.counts) = (kk : Int) := ⟨(min (n : Int) (max (mustN (takS all) n) B.counts)).toNat, by omega⟩
 have hkn : kk ≤ n := by omega
 have hT : tknV B.counts all = (takS all).take kk := by unfold tknV; rw [htl, hkk]; rfl
 have hTl : (tknV B.counts all).length = kk := by rw [hT, List.length_take, htl]; omega
 refine en Tryz.func72 Tryz.ntmps72 hst (h := fun F => ?_)
 refine sr ?_
 refine ww ?_
 refine nr ?_
 refine ww ?_
 refine cl (hc := fun w hS => C_CloneRp A n c _ w (hS.get rdz_) (by omega)) (h := fun x0 _ => ?_)
 refine ww ?_
 refine nr ?_
 refine ww ?_
 refine clT (hc := T_sortStableR 110 inferInstance cmpT RpB C_taken1 all x0.1 n x0.2 hl hn ha) (hs := (by repeat (first | exact Spl.nil | (apply Spl.cons; (repeat (first | exact At.here | apply At.there)))))) (h := fun _ _ => ?_)
 rw [show srtG (fun x y => decide (cmpT x y < 0)) all = takS all from rfl]
 refine nr ?_
 refine ww ?_
 refine nq ?_
 refine sq ?_
 refine sr ?_
 iterate 3 refine ww ?_
 refine nq ?_
 refine bk ?_
 refine lp (X := Nat) (I := fun k => k ≤ n) (le := fun k => [(0, .pointer (some ⟨b, 0, none⟩)), (5, .slice x0.1 n x0.2), (6, .int .i64 (mustN (takS all) k)), (13, .slice x0.1 n x0.2), (14, .int .i64 n), (15, .int .i64 k)]) (Le := fun _ => .own x0.1 x0.2 90 5 n ((takS all).map Rp.enc) :: .own A c 90 5 n (all.map Rp.enc) :: (bkL B a b ++ R)) (μ := fun k => n - k) 0 (Nat.zero_le _) sbz_ slz_ (fun k hk => ?_)
 refine sr ?_
 refine ww ?_
 refine nq ?_
 refine sq ?_
 refine czz (fun h0 => ?_) fun h0 => ?_
 ·
  have hkn2 : k < n := by have := of_decide_eq_true h0; omega
  obtain ⟨x, hx⟩ : ∃ x, (takS all)[k]? = some x := ⟨_, List.getElem?_eq_getElem (by omega)⟩
  have hsu := must_succ hx
  have hmk := must_rng (takS all) k
  refine skp ?_
  refine q_seq ?_
  refine sq ?_
  refine bk ?_
  refine sr ?_
  refine wy (ix (A := x0.1) (m := n)) ?_
  refine wy (ldEW (A := x0.1) (k := k) (cs := x.enc) (hk := rp_at hx)) ?_
  refine al (h := fun br => ?_)
  first | refine stA (h := ?_) | refine stEA (h := ?_)
  refine nr ?_
  iterate 2 refine ww ?_
  refine nq ?_
  refine czz (fun h1 => ?_) fun h1 => ?_
  ·
   rw [h1, cond_true] at hsu
   refine rg ?_
   iterate 3 refine ww ?_
   refine nl ?_
   refine q_blk_norm ?_
   refine q_seq ?_
   refine rg ?_
   iterate 2 refine ww ?_
   refine nl ?_
   refine rn (x := k) (k + 1) hkn2 (by omega) (by rw [hsu]; repeat (first | exact trivial | refine ⟨rfl, ?_⟩)) slz_
  ·
   rw [h1, cond_false] at hsu
   refine skp ?_
   refine q_blk_norm ?_
   refine q_seq ?_
   refine rg ?_
   iterate 2 refine ww ?_
   refine nl ?_
   refine rn (x := k) (k + 1) hkn2 (by omega) (by rw [hsu]; repeat (first | exact trivial | refine ⟨rfl, ?_⟩)) slz_
 ·
  have hkn2 : k = n := by have := of_decide_eq_false h0; omega
  rw [hkn2]
  refine et ?_
  iterate 2 refine q_then_exit ?_
  refine q_blk_hit ?_
  refine q_seq ?_
  refine sq ?_
  refine WC.room (A := x0.1) (k := n) atz_ (fun hroom => ?_)
  refine WC.shrink (A := x0.1) (k := n) atz_ (m := kk) hkn ?_
  refine rg ?_
  iterate 10 refine ww ?_
  refine wy (Yd.to (v' := .int .i64 (kk : Int)) minI (by rw [hkk])) ?_
  refine wy (slP (A := x0.1) (m := n) (cap := x0.2) (hi' := kk) (hc := by omega)) ?_
  refine ww ?_
  refine nq ?_
  refine rtn ?_
  refine q_ret (hR := ?_)
  rw [← List.map_take, ← hT]
  exact fun w hS => ⟨(x0.1, x0.2), trivial, by rw [hTl]; rfl, by rw [hTl]; exact hS.sub slz_⟩
theorem C_rank_sum (l : List Rp) (A : Option Addr) (n c : Nat) (hl : l.length = n) (hn : n ≤ 100) (hb : ∀ r ∈ l, 0 ≤ r.pts ∧ r.pts ≤ 2000) (w : World) (h : Rd w A 5 n (l.map Rp.enc)) : C0 Tryz.prog 71 [.slice A n c] w (.int .i64 (sumR l n)) := by
 refine ⟨en Tryz.func71 Tryz.ntmps71 ((St.init w).share (e := .ro A 5 n (l.map Rp.enc)) h rfl rfl rfl) (h := fun F => ?_)⟩
 refine sr ?_
 refine ww ?_
 refine nq ?_
 refine sq ?_
 refine sr ?_
 iterate 3 refine ww ?_
 refine nq ?_
 refine bk ?_
 refine lp (X := Nat) (I := fun k => k ≤ n) (le := fun k => [(2, .int .i64 (sumR l k)), (5, .slice A n c), (6, .int .i64 n), (7, .int .i64 k)]) (Le := fun _ => [.ro A 5 n (l.map Rp.enc)]) (μ := fun k => n - k) 0 (Nat.zero_le _) sbz_ slz_ (fun k hk => ?_)
 refine sr ?_
 refine ww ?_
 refine nq ?_
 refine sq ?_
 refine czz (fun h0 => ?_) fun h0 => ?_
 ·
  have hkn : k < n := by have := of_decide_eq_true h0; omega
  obtain ⟨x, hx⟩ : ∃ x, l[k]? = some x := ⟨_, List.getElem?_eq_getElem (by omega)⟩
  have hxb := hb x (List.mem_of_getElem? hx)
  have hsu := sumR_succ hx
  have hsr := sumR_rng hb k
  refine skp ?_
  refine q_seq ?_
  refine sq ?_
  refine bk ?_
  refine sr ?_
  refine wy (ix (A := A) (m := n)) ?_
  refine wy (ldEW (A := A) (k := k) (cs := x.enc) (hk := rp_at hx)) ?_
  refine al (h := fun br => ?_)
  first | refine stA (h := ?_) | refine stEA (h := ?_)
  refine nq ?_
  refine rg ?_
  iterate 5 refine ww ?_
  refine nl ?_
  refine q_blk_norm ?_
  refine q_seq ?_
  refine rg ?_
  iterate 2 refine ww ?_
  refine nl ?_
  refine rn (x := k) (k + 1) hkn (by omega) (by rw [hsu]; repeat (first | exact trivial | refine ⟨rfl, ?_⟩)) slz_
 ·
  have hkn : k = n := by have := of_decide_eq_false h0; omega
  subst hkn
  refine et ?_
  iterate 2 refine q_then_exit ?_
  refine q_blk_hit ?_
  refine q_seq ?_
  refine sr ?_
  iterate 2 refine ww ?_
  refine nq ?_
  refine rtn ?_
  refine q_ret (hR := ?_)
  exact fun w hS => ⟨rfl, hS.sub slz_⟩
end Go.Proofs.YthkliiifllhacaaGreat
