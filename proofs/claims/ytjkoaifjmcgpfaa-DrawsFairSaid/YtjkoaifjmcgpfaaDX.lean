/- Walks of draws, twelve: DeleteFunc on persons, Without of the program and of the document. -/
import Derived.Test.YtjkoaifjmcgpfaaDO
import Derived.Test.YtjkoaifjmcgpfaaWV
namespace Go.Proofs.Ytjkoaifjmcgpfaa
open Go Go.RowKit

theorem T_IndexPs {E : Ent} {A : Option Addr} {n c : Nat} {ws : List Ps} (hE : ∀ w, E.ok w → Rd w A 3 n (encPs ws)) {g : FuncId} (hg : FnOk Try.prog g) (fi cap : List Value) (Lp : List Ent) (p : Ps → Bool) (hn : n ≤ 9223372036854775807) (hlen : ws.length = n)
    (hp : ∀ x ∈ ws, Tr Try.prog g (fi ++ [x.val] ++ cap) Lp (fun _ : Unit => True) (fun _ => .bool (p x)) (fun _ => Lp)) :
    Tr Try.prog 88 [.slice A n c, .func (.func g) fi.toArray cap.toArray] (E :: Lp) (Fst (pAt ws p) n) (fun j => .int .i64 j) (fun _ => E :: Lp) := by
  refine ⟨fun w0 w R hst => ?_⟩
  refine en Try.func88 Try.ntmps88 hst (h := fun F => ?_)
  refine sq (h := ?_)
  refine rg (h := ?_)
  refine WL.y (hy := asg) (h := ?_)
  refine nl (h := ?_)
  refine q_seq (h := ?_)
  refine sq (h := ?_)
  refine sq (h := ?_)
  refine rg (h := ?_)
  refine WL.y (hy := mv) (h := ?_)
  refine WL.y (hy := lenS) (h := ?_)
  refine WL.y (hy := mv) (h := ?_)
  refine nl (h := ?_)
  refine q_seq (h := ?_)
  refine bk (h := ?_)
  refine lp (X := Nat) (I := fun k => k ≤ n ∧ ∀ i, i < k → pAt ws p i = false) (le := fun k => [(0, .slice A n c), (1, .func (.func g) fi.toArray cap.toArray), (7, .int .i64 n), (8, .int .i64 k)]) (Le := fun _ => E :: (Lp ++ R)) (μ := fun k => n - k) 0 ⟨by omega, fun i hi => by omega⟩ (by repeat (first | exact trivial | refine ⟨rfl, ?_⟩)) (SubL.refl _) (fun k hk => ?_)
  obtain ⟨hk, hall⟩ := hk
  refine sq (h := ?_)
  refine rg (h := ?_)
  refine WL.y (hy := lss) (h := ?_)
  refine nl (h := ?_)
  refine q_seq (h := ?_)
  refine sq (h := ?_)
  refine cd (by exact rfl) (fun h0 => ?_) (fun h0 => ?_)
  · skip
    have hkn : k < n := by simp only [decide_eq_true_eq] at h0; omega
    obtain ⟨x, hx⟩ : ∃ x, ws[k]? = some x := ⟨_, List.getElem?_eq_getElem (by omega)⟩
    have hxe := encPs_at hx
    refine skp (h := ?_)
    refine q_seq (h := ?_)
    refine sq (h := ?_)
    refine bk (h := ?_)
    refine sq (h := ?_)
    refine rg (h := ?_)
    refine WL.y (hy := mv) (h := ?_)
    refine WL.y (hy := asg) (h := ?_)
    refine nl (h := ?_)
    refine q_seq (h := ?_)
    refine sq (h := ?_)
    refine rg (h := ?_)
    refine WL.y (hy := mv) (h := ?_)
    refine WL.y (hy := mv) (h := ?_)
    refine WL.y (hy := mv) (h := ?_)
    refine WL.y (hy := ix (A := A) (m := n) (hr := Rds.any hE)) (h := ?_)
    refine WL.y (hy := ldEA (A := A) (hr := Rds.any hE) (hk := hxe)) (h := ?_)
    refine clfT hg (fi := fi) (cap := cap) (by exact rfl) (by repeat (first | exact Evs.nil | (apply Evs.cons; exact rfl))) (hp x (List.mem_of_getElem? hx)) rfl (Spl.there (Spl.app _ _)) (h := fun _ _ => ?_)
    refine WL.subL (SubL.cons (At.app _ _) (SubL.refl _)) ?_
    refine nl (h := ?_)
    refine q_seq (h := ?_)
    refine cd (by exact rfl) (fun h1 => ?_) (fun h1 => ?_)
    · skip
      refine sq (h := ?_)
      refine rg (h := ?_)
      refine WL.y (hy := mv) (h := ?_)
      refine WL.y (hy := asg) (h := ?_)
      refine nl (h := ?_)
      refine q_seq (h := ?_)
      refine rtn (h := ?_)
      refine q_blk_ret (h := ?_)
      refine q_then_ret (h := ?_)
      refine q_then_ret (h := ?_)
      refine q_blk_ret (h := ?_)
      refine q_then_ret (h := ?_)
      refine q_ret (hR := ?_)
      exact fun w hS => ⟨_, .inl ⟨k, hkn, rfl, by rw [pAt_eq hx]; assumption, hall⟩, rfl, hS⟩
    · skip
      refine skp (h := ?_)
      refine q_blk_norm (h := ?_)
      refine q_seq (h := ?_)
      refine rg (h := ?_)
      refine WL.y (hy := addI) (h := ?_)
      refine WL.y (hy := mv) (h := ?_)
      refine nl (h := ?_)
      refine rn (k + 1) ⟨by omega, fun i hi => ?_⟩ (by omega) (by repeat (first | exact trivial | refine ⟨rfl, ?_⟩)) (SubL.refl _)
      rcases Nat.lt_succ_iff_lt_or_eq.1 hi with h | rfl
      · exact hall i h
      · rw [pAt_eq hx]; assumption
  · skip
    have hkn : k = n := by simp only [decide_eq_false_iff_not] at h0; omega
    refine et (h := ?_)
    refine q_then_exit (h := ?_)
    refine q_then_exit (h := ?_)
    refine q_blk_hit (h := ?_)
    refine q_seq (h := ?_)
    refine sq (h := ?_)
    refine rg (h := ?_)
    refine WL.y (hy := asg) (h := ?_)
    refine nl (h := ?_)
    refine q_seq (h := ?_)
    refine rtn (h := ?_)
    refine q_ret (hR := ?_)
    exact fun w hS => ⟨_, .inr ⟨rfl, by subst hkn; exact hall⟩, rfl, hS⟩
/-- Persons moved so far: the first i are those kept of the first j; behind j all is as it was. -/
structure DP where
  (i j : Nat) (zs : List Ps)
structure DP.Ok (z : DP) (xs : List Ps) (p : Ps → Bool) : Prop where
  lt : z.i < z.j
  le : z.j ≤ xs.length
  len : z.zs.length = xs.length
  tk : z.zs.take z.i = (xs.take z.j).filter (fun x => !p x)
  dr : z.zs.drop z.j = xs.drop z.j
theorem DP.start {xs : List Ps} {p : Ps → Bool} {k : Nat} {x : Ps} (hx : xs[k]? = some x) (hp : p x = true) (hall : ∀ i, i < k → pAt xs p i = false) : DP.Ok ⟨k, k + 1, xs⟩ xs p := by
  have hk : k < xs.length := (List.getElem?_eq_some_iff.1 hx).1
  refine ⟨by dsimp only; omega, by dsimp only; omega, rfl, ?_, rfl⟩
  dsimp only
  rw [List.take_add_one, hx, List.filter_append]
  have : List.filter (fun x => !p x) (List.take k xs) = List.take k xs := List.filter_eq_self.2 fun y hy => by
    obtain ⟨i, hi, rfl⟩ := List.getElem_of_mem hy
    have hi' : i < k ∧ i < xs.length := by rw [List.length_take] at hi; omega
    have := hall i hi'.1
    rw [pAt_eq (s := xs[i]) (List.getElem?_eq_getElem hi'.2)] at this
    simp [this]
  rw [this]; simp [hp]
theorem DP.drop_ {z : DP} {xs : List Ps} {p : Ps → Bool} (h : z.Ok xs p) {x : Ps} (hx : z.zs[z.j]? = some x) (hj : z.j < xs.length) (hp : p x = true) : DP.Ok ⟨z.i, z.j + 1, z.zs⟩ xs p := by
  have hx' : xs[z.j]? = some x := by
    have := congrArg (fun l : List Ps => l[0]?) h.dr
    simp only [List.getElem?_drop, Nat.add_zero] at this
    rw [← this]; exact hx
  refine ⟨by have := h.lt; dsimp only; omega, by dsimp only; omega, h.len, ?_, ?_⟩
  · dsimp only
    rw [h.tk, List.take_add_one, hx', List.filter_append]; simp [hp]
  · dsimp only
    rw [← List.drop_drop, h.dr, List.drop_drop]
theorem DP.at_ {z : DP} {xs : List Ps} {p : Ps → Bool} (h : z.Ok xs p) {x : Ps} (hx : z.zs[z.j]? = some x) : x ∈ xs := by
  have := congrArg (fun l : List Ps => l[0]?) h.dr
  simp only [List.getElem?_drop, Nat.add_zero] at this
  rw [hx] at this
  exact List.mem_of_getElem? this.symm
theorem DP.keep {z : DP} {xs : List Ps} {p : Ps → Bool} (h : z.Ok xs p) {x : Ps} (hx : z.zs[z.j]? = some x) (hj : z.j < xs.length) (hp : p x = false) : DP.Ok ⟨z.i + 1, z.j + 1, z.zs.set z.i x⟩ xs p := by
  have hx' : xs[z.j]? = some x := by
    have := congrArg (fun l : List Ps => l[0]?) h.dr
    simp only [List.getElem?_drop, Nat.add_zero] at this
    rw [← this]; exact hx
  have hl := h.len
  have hlt := h.lt
  refine ⟨by dsimp only; omega, by dsimp only; omega, by simpa using hl, ?_, ?_⟩
  · dsimp only
    rw [List.take_add_one, List.take_set_of_le (Nat.le_refl _), h.tk, List.take_add_one, hx', List.filter_append, List.getElem?_set_self (by omega)]; simp [hp]
  · dsimp only
    rw [List.drop_set_of_lt (by omega), ← List.drop_drop, h.dr, List.drop_drop]
theorem encPs_set (xs : List Ps) (i : Nat) (x : Ps) : (encPs xs).set i x.enc = encPs (xs.set i x) := by simp [encPs, List.map_set]
theorem encPs_take (xs : List Ps) (i : Nat) : (encPs xs).take i = encPs (xs.take i) := by simp [encPs, List.map_take]
theorem DP.fin {z : DP} {xs : List Ps} {p : Ps → Bool} (h : z.Ok xs p) (hj : z.j = xs.length) : z.zs.take z.i = xs.filter fun x => !p x := by
  rw [h.tk, hj, List.take_length]
set_option maxHeartbeats 1000000 in
theorem T_DeletePs {A : Option Addr} {n c : Nat} {xs : List Ps} {g : FuncId} (hg : FnOk Try.prog g) (fi cap : List Value) (Lp : List Ent) (p : Ps → Bool) (hn : n ≤ 1000000) (hlen : xs.length = n)
    (hp : ∀ x ∈ xs, Tr Try.prog g (fi ++ [x.val] ++ cap) Lp (fun _ : Unit => True) (fun _ => .bool (p x)) (fun _ => Lp)) :
    Tr Try.prog 72 [.slice A n c, .func (.func g) fi.toArray cap.toArray] (.own A c 42 3 n (encPs xs) :: Lp) (fun _ : Unit => True) (fun _ => .slice A (xs.filter fun x => !p x).length c) (fun _ => .own A c 42 3 (xs.filter fun x => !p x).length (encPs (xs.filter fun x => !p x)) :: Lp) := by
  refine ⟨fun w0 w R hst => ?_⟩
  refine en Try.func72 Try.ntmps72 hst (h := fun F => ?_)
  refine sq (h := ?_)
  refine rg (h := ?_)
  refine WL.y (hy := asg) (h := ?_)
  refine nl (h := ?_)
  refine q_seq (h := ?_)
  refine sq (h := ?_)
  refine rg (h := ?_)
  refine WL.y (hy := mv) (h := ?_)
  refine WL.y (hy := mv) (h := ?_)
  refine clT (hc := T_IndexPs (E := .own A c 42 3 n (encPs xs)) (fun w h => h.2) hg fi cap Lp p (by omega) hlen hp) (hs := Spl.cons .here (Spl.app _ _)) (h := fun x0 hx0 => ?_)
  refine WL.y (hy := asg) (h := ?_)
  refine nl (h := ?_)
  refine q_seq (h := ?_)
  refine sq (h := ?_)
  refine sq (h := ?_)
  refine rg (h := ?_)
  refine WL.y (hy := mv) (h := ?_)
  refine WL.y (hy := eql) (h := ?_)
  refine nl (h := ?_)
  refine q_seq (h := ?_)
  refine cd (by exact rfl) (fun h0 => ?_) (fun h0 => ?_)
  · skip
    have hnil : ∀ i, i < n → pAt xs p i = false := by
      rcases hx0 with ⟨k, hk, rfl, _, _⟩ | ⟨_, h⟩
      · simp only [decide_eq_true_eq] at h0; omega
      · exact h
    refine sq (h := ?_)
    refine rg (h := ?_)
    refine WL.y (hy := mv) (h := ?_)
    refine WL.y (hy := asg) (h := ?_)
    refine nl (h := ?_)
    refine q_seq (h := ?_)
    refine rtn (h := ?_)
    refine q_then_ret (h := ?_)
    refine q_ret (hR := ?_)
    have hf : xs.filter (fun x => !p x) = xs := List.filter_eq_self.2 fun y hy => by
      obtain ⟨i, hi, rfl⟩ := List.getElem_of_mem hy
      have := hnil i (by omega)
      rw [pAt_eq (s := xs[i]) (List.getElem?_eq_getElem hi)] at this
      simp [this]
    exact fun w hS => ⟨(), trivial, by rw [hf, hlen]; rfl, by rw [hf, hlen]; exact hS⟩
  · skip
    obtain ⟨k, hk, rfl, hpk, hall⟩ : ∃ k : Nat, k < n ∧ x0 = k ∧ pAt xs p k = true ∧ ∀ i, i < k → pAt xs p i = false := by
      rcases hx0 with h | ⟨rfl, _⟩
      · exact h
      · simp at h0
    obtain ⟨x, hx⟩ : ∃ x, xs[k]? = some x := ⟨_, List.getElem?_eq_getElem (by omega)⟩
    have hpx : p x = true := by rw [pAt_eq hx] at hpk; exact hpk
    refine skp (h := ?_)
    refine q_seq (h := ?_)
    refine sq (h := ?_)
    refine sq (h := ?_)
    refine rg (h := ?_)
    refine WL.y (hy := mv) (h := ?_)
    refine WL.y (hy := addI) (h := ?_)
    refine WL.y (hy := asg) (h := ?_)
    refine nl (h := ?_)
    refine q_seq (h := ?_)
    refine bk (h := ?_)
    refine lp (X := DP) (I := fun z => z.Ok xs p) (le := fun z => [(0, .slice A n c), (1, .func (.func g) fi.toArray cap.toArray), (5, .int .i64 z.i), (6, .int .i64 z.j)]) (Le := fun z => .own A c 42 3 n (encPs z.zs) :: (Lp ++ R)) (μ := fun z => n - z.j) ⟨k, k + 1, xs⟩ (DP.start hx hpx hall) (by repeat (first | exact trivial | refine ⟨rfl, ?_⟩)) (SubL.refl _) (fun z hz => ?_)
    have hzl := hz.len
    have hzlt := hz.lt
    have hzle := hz.le
    refine sq (h := ?_)
    refine sq (h := ?_)
    refine rg (h := ?_)
    refine WL.y (hy := mv) (h := ?_)
    refine WL.y (hy := mv) (h := ?_)
    refine WL.y (hy := lenS) (h := ?_)
    refine WL.y (hy := lss) (h := ?_)
    refine nl (h := ?_)
    refine q_seq (h := ?_)
    refine cd (by exact rfl) (fun h1 => ?_) (fun h1 => ?_)
    · skip
      have hjn : z.j < n := by simp only [decide_eq_true_eq] at h1; omega
      obtain ⟨x, hxj⟩ : ∃ x, z.zs[z.j]? = some x := ⟨_, List.getElem?_eq_getElem (by omega)⟩
      have hxe := encPs_at hxj
      refine skp (h := ?_)
      refine q_seq (h := ?_)
      refine sq (h := ?_)
      refine bk (h := ?_)
      refine sq (h := ?_)
      refine rg (h := ?_)
      refine WL.y (hy := mv) (h := ?_)
      refine WL.y (hy := mv) (h := ?_)
      refine WL.y (hy := ix (A := A) (m := n)) (h := ?_)
      refine WL.y (hy := ldEA (A := A) (hk := hxe)) (h := ?_)
      refine al (h := fun b0 => ?_)
      first | refine stA (h := ?_) | refine stEA (h := ?_)
      refine nl (h := ?_)
      refine q_seq (h := ?_)
      refine sq (h := ?_)
      refine rg (h := ?_)
      refine WL.y (hy := mv) (h := ?_)
      refine WL.y (hy := (by first | exact ldA | exact ldEA)) (h := ?_)
      refine clfT hg (fi := fi) (cap := cap) (by exact rfl) (by repeat (first | exact Evs.nil | (apply Evs.cons; exact rfl))) (hp x (DP.at_ hz hxj)) rfl (Spl.there (Spl.there (Spl.app _ _))) (h := fun _ _ => ?_)
      refine WL.subL (SubL.cons (At.app _ _) (SubL.cons (At.app _ _) (SubL.refl _))) ?_
      refine WL.y (hy := notB) (h := ?_)
      refine nl (h := ?_)
      refine q_seq (h := ?_)
      refine cd (by exact rfl) (fun h2 => ?_) (fun h2 => ?_)
      · skip
        have hpj : p x = false := by simpa using h2
        refine sq (h := ?_)
        refine rg (h := ?_)
        refine WL.y (hy := mv) (h := ?_)
        refine WL.y (hy := mv) (h := ?_)
        refine WL.y (hy := (by first | exact ldA | exact ldEA)) (h := ?_)
        refine WL.y (hy := ix (A := A) (m := n)) (h := ?_)
        refine stEW (k := z.i) (vs := x.enc) (ha := .there .here) (h := ?_)
        rw [encPs_set]
        refine nl (h := ?_)
        refine q_seq (h := ?_)
        refine rg (h := ?_)
        refine WL.y (hy := mv) (h := ?_)
        refine WL.y (hy := addI) (h := ?_)
        refine WL.y (hy := asg) (h := ?_)
        refine nl (h := ?_)
        refine q_blk_norm (h := ?_)
        refine q_seq (h := ?_)
        refine rg (h := ?_)
        refine WL.y (hy := mv) (h := ?_)
        refine WL.y (hy := addI) (h := ?_)
        refine WL.y (hy := asg) (h := ?_)
        refine nl (h := ?_)
        first
          | refine rn (x := z) ⟨z.i + 1, z.j + 1, z.zs.set z.i x⟩ (DP.keep hz hxj (by omega) hpj) (by dsimp only; omega) (by repeat (first | exact trivial | refine ⟨rfl, ?_⟩)) (SubL.cons .here (SubL.skip (SubL.refl _)))
          | refine rn (x := z) ⟨z.i, z.j + 1, z.zs⟩ (DP.drop_ hz hxj (by omega) hpj) (by dsimp only; omega) (by repeat (first | exact trivial | refine ⟨rfl, ?_⟩)) (SubL.skip (SubL.refl _))
      · skip
        have hpj : p x = true := by simpa using h2
        refine skp (h := ?_)
        refine q_blk_norm (h := ?_)
        refine q_seq (h := ?_)
        refine rg (h := ?_)
        refine WL.y (hy := mv) (h := ?_)
        refine WL.y (hy := addI) (h := ?_)
        refine WL.y (hy := asg) (h := ?_)
        refine nl (h := ?_)
        first
          | refine rn (x := z) ⟨z.i + 1, z.j + 1, z.zs.set z.i x⟩ (DP.keep hz hxj (by omega) hpj) (by dsimp only; omega) (by repeat (first | exact trivial | refine ⟨rfl, ?_⟩)) (SubL.cons .here (SubL.skip (SubL.refl _)))
          | refine rn (x := z) ⟨z.i, z.j + 1, z.zs⟩ (DP.drop_ hz hxj (by omega) hpj) (by dsimp only; omega) (by repeat (first | exact trivial | refine ⟨rfl, ?_⟩)) (SubL.skip (SubL.refl _))
    · skip
      have hjn : z.j = xs.length := by simp only [decide_eq_false_iff_not] at h1; omega
      refine et (h := ?_)
      refine q_then_exit (h := ?_)
      refine q_then_exit (h := ?_)
      refine q_blk_hit (h := ?_)
      refine q_seq (h := ?_)
      refine sq (h := ?_)
      refine rg (h := ?_)
      refine WL.y (hy := mv) (h := ?_)
      refine WL.y (hy := mv) (h := ?_)
      refine WL.y (hy := slV (A := A) (m := n) (cap := c) (lo' := z.i) (hi' := n) (hh := .inl ⟨rfl, rfl⟩) (hl := .inr ⟨_, _, _, rfl, rfl, by omega, by omega, by omega⟩)) (h := ?_)
      refine clrS (lo := z.i) (ha := .here) (hlo := by omega) (h := fun es' hes' => ?_)
      refine nl (h := ?_)
      refine q_seq (h := ?_)
      refine sq (h := ?_)
      refine WC.room .here (fun hroom => ?_)
      refine WC.shrink .here (m := z.i) (by omega) ?_
      refine rg (h := ?_)
      refine WL.y (hy := mv) (h := ?_)
      refine WL.y (hy := mv) (h := ?_)
      refine WL.y (hy := slP (A := A) (m := n) (cap := c) (hi' := z.i) (hc := by omega)) (h := ?_)
      refine WL.y (hy := asg) (h := ?_)
      refine nl (h := ?_)
      refine q_seq (h := ?_)
      refine rtn (h := ?_)
      refine q_ret (hR := ?_)
      have hf := DP.fin hz hjn
      have hl : (xs.filter fun x => !p x).length = z.i := by rw [← hf, List.length_take]; omega
      rw [hes', encPs_take, hf]
      exact fun w hS => ⟨(), trivial, by rw [hl]; rfl, by rw [hl]; exact hS⟩
theorem C_ClonePs (A : Option Addr) (n c : Nat) (es : List (List Value)) (w : World) (h : Rd w A 3 n es) (hn : n ≤ 1000000) :
    CR Try.prog 73 [.slice A n c] w (fun _ : Option Addr × Nat => True) (fun p => .slice p.1 n p.2) (fun p => [.own p.1 p.2 42 3 n es]) := by
  refine ⟨en Try.func73 Try.ntmps73 ((St.init w).share (e := .ro A 3 n es) h rfl rfl rfl) (h := fun F => ?_)⟩
  refine sq (h := ?_)
  refine rg (h := ?_)
  refine WL.y (hy := asg) (h := ?_)
  refine WL.nilOwn 42 3 (h := ?_)
  refine nl (h := ?_)
  refine q_seq (h := ?_)
  refine sq (h := ?_)
  refine sq (h := ?_)
  refine rg (h := ?_)
  refine WL.y (hy := mv) (h := ?_)
  refine WL.y (hy := eqlN) (h := ?_)
  refine nl (h := ?_)
  refine q_seq (h := ?_)
  refine cd (by exact rfl) (fun h0 => ?_) (fun h0 => ?_)
  · skip
    refine sq (h := ?_)
    refine rg (h := ?_)
    refine WL.y (hy := asg) (h := ?_)
    refine nl (h := ?_)
    refine q_seq (h := ?_)
    refine rtn (h := ?_)
    refine q_then_ret (h := ?_)
    refine q_ret (hR := ?_)
    have hn0 : n = 0 := by
      rcases Nat.eq_zero_or_pos n with e | e
      · exact e
      · obtain ⟨ad, rfl⟩ := h.some_ e
        cases h0
    have hes : es = [] := by have := h.len; rw [hn0] at this; exact List.length_eq_zero_iff.1 this
    exact fun w hS => ⟨(none, 0), trivial, by rw [hn0]; rfl, by rw [hn0, hes]; exact hS.sub (by repeat (first | exact SubL.nil | (apply SubL.cons; (repeat (first | exact At.here | apply At.there))) | exact SubL.refl _ | apply SubL.skip))⟩
  · skip
    refine skp (h := ?_)
    refine q_seq (h := ?_)
    refine sq (h := ?_)
    refine rg (h := ?_)
    refine bs (h := fun b0 => ?_)
    refine WL.y (hy := mv) (h := ?_)
    first | refine ap (h := fun A1 c1 => ?_) | refine ap0 (h := fun A1 c1 => ?_)
    refine WL.y (hy := asg) (h := ?_)
    refine nl (h := ?_)
    refine q_seq (h := ?_)
    refine rtn (h := ?_)
    refine q_ret (hR := ?_)
    exact fun w hS => ⟨(_, _), trivial, by simp only [Nat.zero_add]; rfl, by simp only [Nat.zero_add, List.nil_append] at hS; exact hS.sub (by repeat (first | exact SubL.nil | (apply SubL.cons; (repeat (first | exact At.here | apply At.there))) | exact SubL.refl _ | apply SubL.skip))⟩
/-! #### Without -/
def Pl0 : Pl := ⟨0, 0, [], []⟩
def wthP (p : Pl) (players : List Int) : Pl := { p with ps := p.ps.filter fun x => !inV players x.player }
def wthR (p : Pl) (players : List Int) : Pl × Int := bif !pOk p then (Pl0, 60) else bif players.any (fun n => decide (perI p n < 0)) then (Pl0, 1) else bif pOk (wthP p players) then (wthP p players, 0) else (Pl0, 3)
theorem T_without1 (p : Pl) (a : PA) (hpn : p.ps.length ≤ 9223372036854775807) (hln : p.lots.length ≤ 9223372036854775807) (hpc : p.ps.length ≤ a.pc) (b : Nat) (n : Int) :
    Tr Try.prog 70 [.int .i64 n, .pointer (some ⟨b, 0, none⟩)] [.blk b 25 (p.cells a), .ro a.pA 3 p.ps.length (encPs p.ps), .ro a.lA 1 p.lots.length (enI p.lots)] (fun _ : Unit => True) (fun _ => .bool (decide (perI p n < 0))) (fun _ => [.blk b 25 (p.cells a), .ro a.pA 3 p.ps.length (encPs p.ps), .ro a.lA 1 p.lots.length (enI p.lots)]) := by
  refine ⟨fun w0 w R hst => ?_⟩
  refine en Try.func70 Try.ntmps70 hst (h := fun F => ?_)
  refine sq (h := ?_)
  refine rg (h := ?_)
  refine WL.y (hy := asg) (h := ?_)
  refine nl (h := ?_)
  refine q_seq (h := ?_)
  refine sq (h := ?_)
  refine rg (h := ?_)
  refine WL.y (hy := (by first | exact ldA | exact ldEA)) (h := ?_)
  refine WL.y (hy := mv) (h := ?_)
  refine cl0 (hc := fun w hS => C_person p a n w ⟨hS.get (by repeat (first | exact Rds.ro | apply Rds.there)), hS.get (by repeat (first | exact Rds.ro | apply Rds.there)), hpn, hln, hpc⟩) (h := ?_)
  refine WL.y (hy := lss) (h := ?_)
  refine WL.y (hy := asg) (h := ?_)
  refine nl (h := ?_)
  refine q_seq (h := ?_)
  refine rtn (h := ?_)
  refine q_ret (hR := ?_)
  exact fun w hS => ⟨(), trivial, rfl, hS.sub (by repeat (first | exact SubL.nil | (apply SubL.cons; (repeat (first | exact At.here | apply At.there))) | exact SubL.refl _ | apply SubL.skip))⟩
theorem T_without2 (l : List Int) (A : Option Addr) (n c : Nat) (hn2 : n ≤ 9223372036854775807) (b : Nat) (x : Ps) :
    Tr Try.prog 74 [x.val, .pointer (some ⟨b, 0, none⟩)] [.blk b 23 [.slice A n c], .ro A 1 n (enI l)] (fun _ : Unit => True) (fun _ => .bool (inV l x.player)) (fun _ => [.blk b 23 [.slice A n c], .ro A 1 n (enI l)]) := by
  refine ⟨fun w0 w R hst => ?_⟩
  refine en Try.func74 Try.ntmps74 hst (h := fun F => ?_)
  refine sq (h := ?_)
  refine rg (h := ?_)
  refine bxA (h := fun b0 => ?_)
  refine WL.y (hy := asg) (h := ?_)
  refine nl (h := ?_)
  refine q_seq (h := ?_)
  refine sq (h := ?_)
  refine rg (h := ?_)
  refine WL.y (hy := (by first | exact ld | exact ldE)) (h := ?_)
  refine WL.y (hy := (by first | exact fa | exact faE)) (h := ?_)
  refine WL.y (hy := (by first | exact ld | exact ldE)) (h := ?_)
  refine cl0 (hc := fun w hS => C_slices_Contains l x.player A n c w (hS.get (by repeat (first | exact Rds.ro | apply Rds.there))) hn2) (h := ?_)
  refine WL.y (hy := asg) (h := ?_)
  refine nl (h := ?_)
  refine q_seq (h := ?_)
  refine rtn (h := ?_)
  refine q_ret (hR := ?_)
  exact fun w hS => ⟨(), trivial, by rw [inV_has]; rfl, hS.sub (by repeat (first | exact SubL.nil | (apply SubL.cons; (repeat (first | exact At.here | apply At.there))) | exact SubL.refl _ | apply SubL.skip))⟩
end Go.Proofs.Ytjkoaifjmcgpfaa
