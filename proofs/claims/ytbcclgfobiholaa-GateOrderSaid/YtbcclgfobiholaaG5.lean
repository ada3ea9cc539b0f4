/- Walks of gate, five: groups that give up. -/
import Derived.Test.YtbcclgfobiholaaG4
import Derived.Test.YtbcclgfobiholaaWP
namespace Go.Proofs.Ytbcclgfobiholaa
open Go Go.RowKit

def goneV (gs : List Pt) (minute i : Int) : Bool := match gs[i.toNat]? with
  | some g => win g.quits 0 minute
  | none => false
abbrev goneL (q : Qu) (a : QA) (x : CA) (ord : List Int) (s : Cr) (b b2 b3 : Nat) (minute : Int) : List Ent := [.blk b2 82 [.pointer (some ⟨b, 0, none⟩)], .blk b3 3 [.int .i64 minute], .blk b 85 (crC q a x ord s), .ro a.gA 4 q.gs.length (encPt q.gs)]
theorem T_gone (q : Qu) (a : QA) (x : CA) (ord : List Int) (s : Cr) (b b2 b3 : Nat) (minute i : Int) (hi : 0 ≤ i ∧ i < q.gs.length) :
    Tr Try.prog 65 [.int .i64 i, .pointer (some ⟨b2, 0, none⟩), .pointer (some ⟨b3, 0, none⟩)] (goneL q a x ord s b b2 b3 minute) (fun _ : Unit => True) (fun _ => .bool (goneV q.gs minute i)) (fun _ => goneL q a x ord s b b2 b3 minute) := by
  refine ⟨fun w0 w R hst => ?_⟩
  obtain ⟨g, hg⟩ : ∃ g, q.gs[i.toNat]? = some g := ⟨_, List.getElem?_eq_getElem (by omega)⟩
  have hge := encPt_at hg
  have hE : goneV q.gs minute i = win g.quits 0 minute := by rw [goneV, hg]
  refine en Try.func65 Try.ntmps65 hst (h := fun F => ?_)
  refine sq (h := ?_)
  refine rg (h := ?_)
  refine WL.y (hy := asg) (h := ?_)
  refine nl (h := ?_)
  refine q_seq (h := ?_)
  refine sq (h := ?_)
  refine rgD (by kernel_rfl) [(1000000, .blk b2 82 [.pointer (some ⟨b, 0, none⟩)]), (1000000, .blk b3 3 [.int .i64 minute]), (1000000, .blk b 85 (crC q a x ord s)), (1000000, .ro a.gA 4 q.gs.length (encPt q.gs))] (by repeat (first | exact HS.nil | (apply HS.keep; (repeat (first | exact At.here | apply At.there))) | (apply HS.ro; (repeat (first | exact Rds.ro | exact Rds.own | apply Rds.there))))) (h := ?_)
  refine tk 0 (hy := (by first | exact ld | exact ldE)) (h := ?_)
  refine tk 1 (hy := nck) (h := ?_)
  refine tk 2 (hy := (by first | exact fa | exact faE)) (h := ?_)
  refine tk 3 (hy := (by first | exact fa | exact faE)) (h := ?_)
  refine tk 4 (hy := (by first | exact ld | exact ldE)) (h := ?_)
  refine tk 5 (hy := mv) (h := ?_)
  refine tk 6 (hy := ix (A := a.gA) (m := q.gs.length)) (h := ?_)
  refine tk 7 (hy := (by first | exact fa | exact faE)) (h := ?_)
  refine tk 8 (hy := ldE (A := a.gA) (hk := hge)) (h := ?_)
  refine tk 9 (hy := (by first | exact ld | exact ldE)) (h := ?_)
  refine one 10 (h := ?_)
  refine cl0 (hc := fun w hS => C_gate_within ..) (h := ?_)
  refine nx (h := ?_)
  refine tk 11 (hy := asg) (h := ?_)
  refine dn (h := ?_)
  refine q_seq (h := ?_)
  refine rtn (h := ?_)
  refine q_ret (hR := ?_)
  rw [hE]
  exact fun w hS => ⟨(), trivial, rfl, hS.sub (by repeat (first | exact SubL.nil | (apply SubL.cons; (repeat (first | exact At.here | apply At.there))) | exact SubL.refl _ | apply SubL.skip))⟩

/-- The first index of an element of which p says yes. -/
theorem T_IndexInt {E : Ent} {A : Option Addr} {n c : Nat} {ws : List Int} (hE : ∀ w, E.ok w → Rd w A 1 n (enI ws)) {g : FuncId} (hg : FnOk Try.prog g) (fi cap : List Value) (Lp : List Ent) (p : Int → Bool) (hn : n ≤ 9223372036854775807) (hlen : ws.length = n)
    (hp : ∀ x ∈ ws, Tr Try.prog g (fi ++ [.int .i64 x] ++ cap) Lp (fun _ : Unit => True) (fun _ => .bool (p x)) (fun _ => Lp)) :
    Tr Try.prog 61 [.slice A n c, .func (.func g) fi.toArray cap.toArray] (E :: Lp) (Fst (pAt ws p) n) (fun j => .int .i64 j) (fun _ => E :: Lp) := by
  refine ⟨fun w0 w R hst => ?_⟩
  refine en Try.func61 Try.ntmps61 hst (h := fun F => ?_)
  refine sq (h := ?_)
  refine rg (h := ?_)
  refine WL.y (hy := asg) (h := ?_)
  refine nl (h := ?_)
  refine q_seq (h := ?_)
  refine sq (h := ?_)
  refine sq (h := ?_)
  refine rg (h := ?_)
  refine WL.y (hy := mv) (h := ?_)
  refine WL.y (hy := lenS) (h := ?_)
  refine WL.y (hy := mv) (h := ?_)
  refine nl (h := ?_)
  refine q_seq (h := ?_)
  refine bk (h := ?_)
  refine lp (X := Nat) (I := fun k => k ≤ n ∧ ∀ i, i < k → pAt ws p i = false) (le := fun k => [(0, .slice A n c), (1, .func (.func g) fi.toArray cap.toArray), (7, .int .i64 n), (8, .int .i64 k)]) (Le := fun _ => E :: (Lp ++ R)) (μ := fun k => n - k) 0 ⟨by omega, fun i hi => by omega⟩ (by repeat (first | exact trivial | refine ⟨rfl, ?_⟩)) (SubL.refl _) (fun k hk => ?_)
  obtain ⟨hk, hall⟩ := hk
  refine sq (h := ?_)
  refine rg (h := ?_)
  refine WL.y (hy := lss) (h := ?_)
  refine nl (h := ?_)
  refine q_seq (h := ?_)
  refine sq (h := ?_)
  refine cd (by exact rfl) (fun h0 => ?_) (fun h0 => ?_)
  · skip
    have hkn : k < n := by simp only [decide_eq_true_eq] at h0; omega
    obtain ⟨x, hx⟩ : ∃ x, ws[k]? = some x := ⟨_, List.getElem?_eq_getElem (by omega)⟩
    have hxe := enI_at hx
    refine skp (h := ?_)
    refine q_seq (h := ?_)
    refine sq (h := ?_)
    refine bk (h := ?_)
    refine sq (h := ?_)
    refine rg (h := ?_)
    refine WL.y (hy := mv) (h := ?_)
    refine WL.y (hy := asg) (h := ?_)
    refine nl (h := ?_)
    refine q_seq (h := ?_)
    refine sq (h := ?_)
    refine rg (h := ?_)
    refine WL.y (hy := mv) (h := ?_)
    refine WL.y (hy := mv) (h := ?_)
    refine WL.y (hy := mv) (h := ?_)
    refine WL.y (hy := ix (A := A) (m := n) (hr := Rds.any hE)) (h := ?_)
    refine WL.y (hy := ldE (A := A) (hr := Rds.any hE) (hk := hxe)) (h := ?_)
    refine clfT hg (fi := fi) (cap := cap) (by exact rfl) (by repeat (first | exact Evs.nil | (apply Evs.cons; exact rfl))) (hp x (List.mem_of_getElem? hx)) rfl (Spl.there (Spl.app _ _)) (h := fun _ _ => ?_)
    refine WL.subL (SubL.cons (At.app _ _) (SubL.refl _)) ?_
    refine nl (h := ?_)
    refine q_seq (h := ?_)
    refine cd (by exact rfl) (fun h1 => ?_) (fun h1 => ?_)
    · skip
      refine sq (h := ?_)
      refine rg (h := ?_)
      refine WL.y (hy := mv) (h := ?_)
      refine WL.y (hy := asg) (h := ?_)
      refine nl (h := ?_)
      refine q_seq (h := ?_)
      refine rtn (h := ?_)
      refine q_blk_ret (h := ?_)
      refine q_then_ret (h := ?_)
      refine q_then_ret (h := ?_)
      refine q_blk_ret (h := ?_)
      refine q_then_ret (h := ?_)
      refine q_ret (hR := ?_)
      exact fun w hS => ⟨_, .inl ⟨k, hkn, rfl, by rw [pAt_eq hx]; assumption, hall⟩, rfl, hS⟩
    · skip
      refine skp (h := ?_)
      refine q_blk_norm (h := ?_)
      refine q_seq (h := ?_)
      refine rg (h := ?_)
      refine WL.y (hy := addI) (h := ?_)
      refine WL.y (hy := mv) (h := ?_)
      refine nl (h := ?_)
      refine rn (k + 1) ⟨by omega, fun i hi => ?_⟩ (by omega) (by repeat (first | exact trivial | refine ⟨rfl, ?_⟩)) (SubL.refl _)
      rcases Nat.lt_succ_iff_lt_or_eq.1 hi with h | rfl
      · exact hall i h
      · rw [pAt_eq hx]; assumption
  · skip
    have hkn : k = n := by simp only [decide_eq_false_iff_not] at h0; omega
    refine et (h := ?_)
    refine q_then_exit (h := ?_)
    refine q_then_exit (h := ?_)
    refine q_blk_hit (h := ?_)
    refine q_seq (h := ?_)
    refine sq (h := ?_)
    refine rg (h := ?_)
    refine WL.y (hy := asg) (h := ?_)
    refine nl (h := ?_)
    refine q_seq (h := ?_)
    refine rtn (h := ?_)
    refine q_ret (hR := ?_)
    exact fun w hS => ⟨_, .inr ⟨rfl, by subst hkn; exact hall⟩, rfl, hS⟩

/-! #### deleting -/
structure DZ where
  (i j : Nat) (cur : List Int)
theorem filter_take_succ {α : Type} {xs : List α} {j : Nat} {x : α} (p : α → Bool) (h : xs[j]? = some x) : (xs.take (j + 1)).filter p = (xs.take j).filter p ++ (bif p x then [x] else []) := by
  rw [List.take_add_one, h, List.filter_append]
  cases hp : p x <;> simp [hp]
set_option maxHeartbeats 1000000 in
theorem T_DeleteFunc {g : FuncId} (hg : FnOk Try.prog g) (fi cap : List Value) (Lp : List Ent) (p : Int → Bool) (b : Nat) (pre sp : List Value) (ws : List Int) (n c : Nat) (hlen : ws.length = n) (hn : n ≤ 1000000) (hnc : n ≤ c)
    (hp : ∀ x ∈ ws, Tr Try.prog g (fi ++ [.int .i64 x] ++ cap) Lp (fun _ : Unit => True) (fun _ => .bool (p x)) (fun _ => Lp)) :
    Tr Try.prog 66 [.slice (some ⟨b, pre.length, none⟩) n c, .func (.func g) fi.toArray cap.toArray] (.blk b 3 (pre ++ (ws.map vI ++ sp)) :: Lp) (fun sp' : List Value => (ws.filter fun x => !p x).length + sp'.length = n + sp.length)
      (fun _ => .slice (some ⟨b, pre.length, none⟩) (ws.filter fun x => !p x).length c) (fun sp' => .blk b 3 (pre ++ ((ws.filter fun x => !p x).map vI ++ sp')) :: Lp) := by
  refine ⟨fun w0 w R hst => ?_⟩
  refine en Try.func66 Try.ntmps66 hst (h := fun F => ?_)
  refine sq (h := ?_)
  refine rg (h := ?_)
  refine WL.y (hy := asg) (h := ?_)
  refine nl (h := ?_)
  refine q_seq (h := ?_)
  refine sq (h := ?_)
  refine rg (h := ?_)
  refine WL.y (hy := mv) (h := ?_)
  refine WL.y (hy := mv) (h := ?_)
  refine clT (hc := T_IndexInt (A := some ⟨b, pre.length, none⟩) (c := c) (ws := ws) (fun w h => rd_blk hlen (by omega) w h) hg fi cap Lp p (by omega) hlen hp) (hs := Spl.cons .here (Spl.app _ _)) (h := fun x0 hx0 => ?_)
  refine WL.y (hy := asg) (h := ?_)
  refine nl (h := ?_)
  refine q_seq (h := ?_)
  refine sq (h := ?_)
  refine sq (h := ?_)
  refine rg (h := ?_)
  refine WL.y (hy := mv) (h := ?_)
  refine WL.y (hy := eql) (h := ?_)
  refine nl (h := ?_)
  refine q_seq (h := ?_)
  refine cd (by exact rfl) (fun h0 => ?_) (fun h0 => ?_)
  · skip
    have hall : ws.filter (fun x => !p x) = ws := by
      rcases hx0 with ⟨k0, hk0, rfl, _⟩ | ⟨-, hall⟩
      · exact absurd (of_decide_eq_true h0) (by omega)
      · refine List.filter_eq_self.2 fun x hx => ?_
        obtain ⟨k, hk, rfl⟩ := List.getElem_of_mem hx
        have := hall k (by omega)
        rw [pAt_eq (List.getElem?_eq_getElem hk)] at this
        rw [this]; rfl
    refine sq (h := ?_)
    refine rg (h := ?_)
    refine WL.y (hy := mv) (h := ?_)
    refine WL.y (hy := asg) (h := ?_)
    refine nl (h := ?_)
    refine q_seq (h := ?_)
    refine rtn (h := ?_)
    refine q_then_ret (h := ?_)
    refine q_ret (hR := ?_)
    rw [hall]
    exact fun w hS => ⟨sp, by rw [hlen], by rw [hlen]; rfl, hS⟩
  · skip
    obtain ⟨k0, hk0, rfl, hpk, hbef⟩ : ∃ k0 : Nat, k0 < n ∧ x0 = k0 ∧ pAt ws p k0 = true ∧ ∀ i, i < k0 → pAt ws p i = false := by
      rcases hx0 with h | ⟨rfl, _⟩
      · exact h
      · exact absurd h0 (by decide)
    have htk : (ws.take k0).filter (fun x => !p x) = ws.take k0 := by
      refine List.filter_eq_self.2 fun x hx => ?_
      obtain ⟨k, hk, rfl⟩ := List.getElem_of_mem hx
      have hkl : k < k0 := by rw [List.length_take] at hk; omega
      have := hbef k hkl
      rw [pAt_eq (List.getElem?_eq_getElem (by omega))] at this
      rw [List.getElem_take, this]; rfl
    have htk1 : (ws.take (k0 + 1)).filter (fun x => !p x) = ws.take k0 := by
      have hx : ws[k0]? = some ws[k0] := List.getElem?_eq_getElem (by omega)
      rw [pAt_eq hx] at hpk
      rw [filter_take_succ _ hx, htk, hpk]; simp
    refine skp (h := ?_)
    refine q_seq (h := ?_)
    refine sq (h := ?_)
    refine sq (h := ?_)
    refine rg (h := ?_)
    refine WL.y (hy := mv) (h := ?_)
    refine WL.y (hy := addI) (h := ?_)
    refine WL.y (hy := asg) (h := ?_)
    refine nl (h := ?_)
    refine q_seq (h := ?_)
    refine bk (h := ?_)
    refine lp (X := DZ) (I := fun z => z.i + 1 ≤ z.j ∧ z.j ≤ n ∧ z.cur.length = n ∧ z.cur.take z.i = (ws.take z.j).filter (fun x => !p x) ∧ z.cur.drop z.j = ws.drop z.j) (le := fun z => [(0, .slice (some ⟨b, pre.length, none⟩) n c), (1, .func (.func g) fi.toArray cap.toArray), (5, .int .i64 z.i), (6, .int .i64 z.j)]) (Le := fun z => .blk b 3 (pre ++ (z.cur.map vI ++ sp)) :: (Lp ++ R)) (μ := fun z => n - z.j) ⟨k0, k0 + 1, ws⟩ ⟨Nat.le_refl _, by dsimp only; omega, hlen, htk1.symm, rfl⟩ (by repeat (first | exact trivial | refine ⟨rfl, ?_⟩)) (SubL.refl _) (fun z hz => ?_)
    obtain ⟨hz0, hz1, hz2, hz3, hz4⟩ := hz
    refine sq (h := ?_)
    refine sq (h := ?_)
    refine rg (h := ?_)
    refine WL.y (hy := mv) (h := ?_)
    refine WL.y (hy := mv) (h := ?_)
    refine WL.y (hy := lenS) (h := ?_)
    refine WL.y (hy := lss) (h := ?_)
    refine nl (h := ?_)
    refine q_seq (h := ?_)
    refine cd (by exact rfl) (fun h1 => ?_) (fun h1 => ?_)
    · skip
      have hkn : z.j < n := by simp only [decide_eq_true_eq] at h1; omega
      obtain ⟨x, hx⟩ : ∃ x, ws[z.j]? = some x := ⟨_, List.getElem?_eq_getElem (by omega)⟩
      have hcx : z.cur[z.j]? = some x := by
        have h1 : (z.cur.drop z.j)[0]? = (ws.drop z.j)[0]? := by rw [hz4]
        rw [List.getElem?_drop, List.getElem?_drop, Nat.add_zero] at h1
        rw [h1, hx]
      have hxe := enI_at hcx
      have hfs := filter_take_succ (fun x => !p x) hx
      have hE := fun w h => rd_blk (g := b) (T := 3) (pre := pre) (sp := sp) (ws := z.cur) hz2 (by omega) w h
      refine skp (h := ?_)
      refine q_seq (h := ?_)
      refine sq (h := ?_)
      refine bk (h := ?_)
      refine sq (h := ?_)
      refine rg (h := ?_)
      refine WL.y (hy := mv) (h := ?_)
      refine WL.y (hy := mv) (h := ?_)
      refine WL.y (hy := ix (A := some ⟨b, pre.length, none⟩) (m := n) (hr := Rds.any hE)) (h := ?_)
      refine WL.y (hy := ldE (A := some ⟨b, pre.length, none⟩) (hr := Rds.any hE) (hk := hxe)) (h := ?_)
      refine WL.y (hy := asg) (h := ?_)
      refine nl (h := ?_)
      refine q_seq (h := ?_)
      refine sq (h := ?_)
      refine rg (h := ?_)
      refine WL.y (hy := mv) (h := ?_)
      refine WL.y (hy := mv) (h := ?_)
      refine clfT hg (fi := fi) (cap := cap) (by exact rfl) (by repeat (first | exact Evs.nil | (apply Evs.cons; exact rfl))) (hp x (List.mem_of_getElem? hx)) rfl (Spl.there (Spl.app _ _)) (h := fun _ _ => ?_)
      refine WL.subL (SubL.cons (At.app _ _) (SubL.refl _)) ?_
      refine WL.y (hy := notB) (h := ?_)
      refine nl (h := ?_)
      refine q_seq (h := ?_)
      refine cd (by exact rfl) (fun h2 => ?_) (fun h2 => ?_)
      · skip
        have hpx : p x = false := by simpa using h2
        refine sq (h := ?_)
        refine rg (h := ?_)
        refine WL.y (hy := mv) (h := ?_)
        refine WL.y (hy := mv) (h := ?_)
        refine WL.y (hy := mv) (h := ?_)
        refine WL.y (hy := Yd.to (ix (A := some ⟨b, pre.length, none⟩) (m := n) (hr := Rds.any hE)) (pe_lit ..)) (h := ?_)
        refine stI (o := pre.length + z.i) (cs := pre ++ (z.cur.map vI ++ sp)) (ha := .here) (ho := by simp; omega) (h := ?_)
        rw [set_view pre sp z.cur x (by omega)]
        refine nl (h := ?_)
        refine q_seq (h := ?_)
        refine rg (h := ?_)
        refine WL.y (hy := mv) (h := ?_)
        refine WL.y (hy := addI) (h := ?_)
        refine WL.y (hy := asg) (h := ?_)
        refine nl (h := ?_)
        refine q_blk_norm (h := ?_)
        refine q_seq (h := ?_)
        refine rg (h := ?_)
        refine WL.y (hy := mv) (h := ?_)
        refine WL.y (hy := addI) (h := ?_)
        refine WL.y (hy := asg) (h := ?_)
        refine nl (h := ?_)
        first
          | (refine rn (x := z) ⟨z.i + 1, z.j + 1, z.cur.set z.i x⟩ ⟨by dsimp only; omega, by dsimp only; omega, by simpa using hz2, ?_, ?_⟩ (by dsimp only; omega) (by repeat (first | exact trivial | refine ⟨rfl, ?_⟩)) (SubL.refl _)
             · show (z.cur.set z.i x).take (z.i + 1) = (ws.take (z.j + 1)).filter _
               rw [hfs, hpx, ← hz3, List.take_add_one, List.getElem?_set_self (by omega), List.take_set_of_le (Nat.le_refl _)]; rfl
             · show (z.cur.set z.i x).drop (z.j + 1) = ws.drop (z.j + 1)
               rw [List.drop_set_of_lt (by omega)]
               have := congrArg (List.drop 1) hz4
               rwa [List.drop_drop, List.drop_drop] at this)
          | (refine rn (x := z) ⟨z.i, z.j + 1, z.cur⟩ ⟨by dsimp only; omega, by dsimp only; omega, hz2, ?_, ?_⟩ (by dsimp only; omega) (by repeat (first | exact trivial | refine ⟨rfl, ?_⟩)) (SubL.refl _)
             · show z.cur.take z.i = (ws.take (z.j + 1)).filter _
               rw [hfs, hpx, ← hz3]; simp
             · show z.cur.drop (z.j + 1) = ws.drop (z.j + 1)
               have := congrArg (List.drop 1) hz4
               rwa [List.drop_drop, List.drop_drop] at this)
      · skip
        have hpx : p x = true := by simpa using h2
        refine skp (h := ?_)
        refine q_blk_norm (h := ?_)
        refine q_seq (h := ?_)
        refine rg (h := ?_)
        refine WL.y (hy := mv) (h := ?_)
        refine WL.y (hy := addI) (h := ?_)
        refine WL.y (hy := asg) (h := ?_)
        refine nl (h := ?_)
        first
          | (refine rn (x := z) ⟨z.i + 1, z.j + 1, z.cur.set z.i x⟩ ⟨by dsimp only; omega, by dsimp only; omega, by simpa using hz2, ?_, ?_⟩ (by dsimp only; omega) (by repeat (first | exact trivial | refine ⟨rfl, ?_⟩)) (SubL.refl _)
             · show (z.cur.set z.i x).take (z.i + 1) = (ws.take (z.j + 1)).filter _
               rw [hfs, hpx, ← hz3, List.take_add_one, List.getElem?_set_self (by omega), List.take_set_of_le (Nat.le_refl _)]; rfl
             · show (z.cur.set z.i x).drop (z.j + 1) = ws.drop (z.j + 1)
               rw [List.drop_set_of_lt (by omega)]
               have := congrArg (List.drop 1) hz4
               rwa [List.drop_drop, List.drop_drop] at this)
          | (refine rn (x := z) ⟨z.i, z.j + 1, z.cur⟩ ⟨by dsimp only; omega, by dsimp only; omega, hz2, ?_, ?_⟩ (by dsimp only; omega) (by repeat (first | exact trivial | refine ⟨rfl, ?_⟩)) (SubL.refl _)
             · show z.cur.take z.i = (ws.take (z.j + 1)).filter _
               rw [hfs, hpx, ← hz3]; simp
             · show z.cur.drop (z.j + 1) = ws.drop (z.j + 1)
               have := congrArg (List.drop 1) hz4
               rwa [List.drop_drop, List.drop_drop] at this)
    · skip
      have hkn : z.j = n := by simp only [decide_eq_false_iff_not] at h1; omega
      have hfin : ws.filter (fun x => !p x) = z.cur.take z.i := by rw [hz3, hkn, List.take_of_length_le (by omega)]
      have hfl : (ws.filter fun x => !p x).length = z.i := by rw [hfin, List.length_take]; omega
      refine et (h := ?_)
      refine q_then_exit (h := ?_)
      refine q_then_exit (h := ?_)
      refine q_blk_hit (h := ?_)
      refine q_seq (h := ?_)
      refine sq (h := ?_)
      refine rg (h := ?_)
      refine WL.y (hy := mv) (h := ?_)
      refine WL.y (hy := mv) (h := ?_)
      refine WL.y (hy := slB (g := b) (o := pre.length) (m := n) (cap := c) (lo' := z.i) (hlo := by omega) (hlc := by omega)) (h := ?_)
      refine clrB (z := .int .i64 0) (g := b) (o := pre.length + z.i) (m := n - z.i) (cs := pre ++ (z.cur.map vI ++ sp)) (ha := .here) (hm := by omega) (hl := by simp; omega) (h := ?_)
      rw [clear_view pre sp z.cur hz2 (by omega), ← hfin]
      refine nl (h := ?_)
      refine q_seq (h := ?_)
      refine sq (h := ?_)
      refine rg (h := ?_)
      refine WL.y (hy := mv) (h := ?_)
      refine WL.y (hy := mv) (h := ?_)
      refine WL.y (hy := slP (A := some ⟨b, pre.length, none⟩) (m := n) (cap := c) (hi' := z.i) (hc := by omega)) (h := ?_)
      refine WL.y (hy := asg) (h := ?_)
      refine nl (h := ?_)
      refine q_seq (h := ?_)
      refine rtn (h := ?_)
      refine q_ret (hR := ?_)
      rw [hfl]
      exact fun w hS => ⟨_, by simp; omega, rfl, hS⟩
theorem T_Delete0 {g : FuncId} (hg : FnOk Try.prog g) (fi cap : List Value) (A : Option Addr) (c : Nat) (w : World) : C0 Try.prog 66 [.slice A 0 c, .func (.func g) fi.toArray cap.toArray] w (.slice A 0 c) := by
  refine ⟨en Try.func66 Try.ntmps66 (St.init w) (h := fun F => ?_)⟩
  refine sq (h := ?_)
  refine rg (h := ?_)
  refine WL.y (hy := asg) (h := ?_)
  refine nl (h := ?_)
  refine q_seq (h := ?_)
  refine sq (h := ?_)
  refine WC.nilOwn 3 1 (h := ?_)
  refine rg (h := ?_)
  refine WL.y (hy := mv) (h := ?_)
  refine WL.y (hy := mv) (h := ?_)
  refine clT (hc := T_IndexInt (E := .own none 0 3 1 0 []) (A := A) (n := 0) (c := c) (ws := []) (fun w _ => Rd.nil w A 1) hg fi cap [] (fun _ => false) (by omega) rfl (fun x hx => by cases hx)) (hs := (by repeat (first | exact Spl.nil | (apply Spl.cons; (repeat (first | exact At.here | apply At.there)))))) (h := fun x0 hx0 => ?_)
  refine WL.y (hy := asg) (h := ?_)
  refine nl (h := ?_)
  refine q_seq (h := ?_)
  refine sq (h := ?_)
  refine sq (h := ?_)
  refine rg (h := ?_)
  refine WL.y (hy := mv) (h := ?_)
  refine WL.y (hy := eql) (h := ?_)
  refine nl (h := ?_)
  refine q_seq (h := ?_)
  refine cd (by exact rfl) (fun h0 => ?_) (fun h0 => ?_)
  · skip
    refine sq (h := ?_)
    refine rg (h := ?_)
    refine WL.y (hy := mv) (h := ?_)
    refine WL.y (hy := asg) (h := ?_)
    refine nl (h := ?_)
    refine q_seq (h := ?_)
    refine rtn (h := ?_)
    refine q_then_ret (h := ?_)
    refine q_ret (hR := ?_)
    exact fun w hS => ⟨rfl, hS.sub (by repeat (first | exact SubL.nil | (apply SubL.cons; (repeat (first | exact At.here | apply At.there))) | exact SubL.refl _ | apply SubL.skip))⟩
  · skip
    exfalso
    rcases hx0 with ⟨k, hk, _⟩ | ⟨rfl, _⟩
    · omega
    · exact absurd h0 (by decide)
end Go.Proofs.Ytbcclgfobiholaa
