/- Walk of DeleteFunc on a row of numbers of one's own. -/
import Derived.Test.YtdphljhhcaoleaaLH
import Derived.Test.YtdphljhhcaoleaaWD
namespace Go.Proofs.Ytdphljhhcaoleaa
open Go Go.RowKit

/-- Numbers moved so far: the first i are those kept of the first j; behind j all is as it was. -/
structure DS where
  (i j : Nat) (zs : List Int)
structure DS.Ok (z : DS) (xs : List Int) (p : Int → Bool) : Prop where
  lt : z.i < z.j
  le : z.j ≤ xs.length
  len : z.zs.length = xs.length
  tk : z.zs.take z.i = (xs.take z.j).filter (fun x => !p x)
  dr : z.zs.drop z.j = xs.drop z.j
theorem DS.start {xs : List Int} {p : Int → Bool} {k : Nat} {x : Int} (hx : xs[k]? = some x) (hp : p x = true) (hall : ∀ i, i < k → pAt xs p i = false) : DS.Ok ⟨k, k + 1, xs⟩ xs p := by
  have hk : k < xs.length := (List.getElem?_eq_some_iff.1 hx).1
  refine ⟨by dsimp only; omega, by dsimp only; omega, rfl, ?_, rfl⟩
  dsimp only
  rw [List.take_add_one, hx, List.filter_append]
  have : List.filter (fun x => !p x) (List.take k xs) = List.take k xs := List.filter_eq_self.2 fun y hy => by
    obtain ⟨i, hi, rfl⟩ := List.getElem_of_mem hy
    have hi' : i < k ∧ i < xs.length := by rw [List.length_take] at hi; omega
    have := hall i hi'.1
    rw [pAt_eq (s := xs[i]) (List.getElem?_eq_getElem hi'.2)] at this
    simp [this]
  rw [this]; simp [hp]
theorem DS.drop_ {z : DS} {xs : List Int} {p : Int → Bool} (h : z.Ok xs p) {x : Int} (hx : z.zs[z.j]? = some x) (hj : z.j < xs.length) (hp : p x = true) : DS.Ok ⟨z.i, z.j + 1, z.zs⟩ xs p := by
  have hx' : xs[z.j]? = some x := by
    have := congrArg (fun l : List Int => l[0]?) h.dr
    simp only [List.getElem?_drop, Nat.add_zero] at this
    rw [← this]; exact hx
  refine ⟨by have := h.lt; dsimp only; omega, by dsimp only; omega, h.len, ?_, ?_⟩
  · dsimp only
    rw [h.tk, List.take_add_one, hx', List.filter_append]; simp [hp]
  · dsimp only
    rw [← List.drop_drop, h.dr, List.drop_drop]
theorem DS.keep {z : DS} {xs : List Int} {p : Int → Bool} (h : z.Ok xs p) {x : Int} (hx : z.zs[z.j]? = some x) (hj : z.j < xs.length) (hp : p x = false) : DS.Ok ⟨z.i + 1, z.j + 1, z.zs.set z.i x⟩ xs p := by
  have hx' : xs[z.j]? = some x := by
    have := congrArg (fun l : List Int => l[0]?) h.dr
    simp only [List.getElem?_drop, Nat.add_zero] at this
    rw [← this]; exact hx
  have hl := h.len
  have hlt := h.lt
  refine ⟨by dsimp only; omega, by dsimp only; omega, by simpa using hl, ?_, ?_⟩
  · dsimp only
    rw [List.take_add_one, List.take_set_of_le (Nat.le_refl _), h.tk, List.take_add_one, hx', List.filter_append, List.getElem?_set_self (by omega)]; simp [hp]
  · dsimp only
    rw [List.drop_set_of_lt (by omega), ← List.drop_drop, h.dr, List.drop_drop]
theorem encI_set (xs : List Int) (i : Nat) (x : Int) : (encI xs).set i [.int .i64 x] = encI (xs.set i x) := by simp [encI, List.map_set]
theorem encI_take (xs : List Int) (i : Nat) : (encI xs).take i = encI (xs.take i) := by simp [encI, List.map_take]
theorem DS.fin {z : DS} {xs : List Int} {p : Int → Bool} (h : z.Ok xs p) (hj : z.j = xs.length) : z.zs.take z.i = xs.filter fun x => !p x := by
  rw [h.tk, hj, List.take_length]

theorem C_DeleteFuncI {A : Option Addr} {n c : Nat} {xs : List Int} {g : FuncId} (hg : FnOk Try.prog g) (fi cap : List Value) (Lp : List Ent) (p : Int → Bool) (hn : n ≤ 9223372036854775807)
    (hp : ∀ x : Int, Tr Try.prog g (fi ++ [.int .i64 x] ++ cap) Lp (fun _ : Unit => True) (fun _ => .bool (p x)) (fun _ => Lp)) :
    Tr Try.prog 70 [.slice A n c, .func (.func g) fi.toArray cap.toArray] (Lp ++ [.own A c 3 1 n (encI xs)]) (fun _ : Unit => True) (fun _ => .slice A (xs.filter fun x => !p x).length c) (fun _ => Lp ++ [.own A c 3 1 (xs.filter fun x => !p x).length (encI (xs.filter fun x => !p x))]) := by
  refine ⟨fun w0 w R hst => ?_⟩
  have hst' : St w0 w (Lp ++ (.own A c 3 1 n (encI xs) :: R)) := by simpa using hst
  have hlen : xs.length = n := by
    have := (hst'.ok (.own A c 3 1 n (encI xs)) (by simp)).2.len
    rwa [encI_len] at this
  have hrds : ∀ (Lq : List Ent) (zs : List Int), Rds (Lq ++ (.own A c 3 1 n (encI zs) :: R)) A 1 n (encI zs) := fun Lq zs => by
    induction Lq with
    | nil => exact Rds.own
    | cons e Lq ih => exact .there ih
  refine en Try.func70 Try.ntmps70 hst' (h := fun F => ?_)
  refine sq (h := ?_)
  refine rg (h := ?_)
  refine WL.y (hy := asg) (h := ?_)
  refine nl (h := ?_)
  refine q_seq (h := ?_)
  refine sq (h := ?_)
  refine rg (h := ?_)
  refine WL.y (hy := mv) (h := ?_)
  refine WL.y (hy := mv) (h := ?_)
  refine clT (hc := C_IndexFuncI hg fi cap Lp p hn hp) (hs := Spl.app1 _ _ _) (h := fun x0 hx0 => ?_)
  simp only [List.append_assoc, List.cons_append, List.nil_append]
  refine WL.y (hy := asg) (h := ?_)
  refine nl (h := ?_)
  refine q_seq (h := ?_)
  refine sq (h := ?_)
  refine sq (h := ?_)
  refine rg (h := ?_)
  refine WL.y (hy := mv) (h := ?_)
  refine WL.y (hy := eql) (h := ?_)
  refine nl (h := ?_)
  refine q_seq (h := ?_)
  refine cd (by exact rfl) (fun h0 => ?_) (fun h0 => ?_)
  · skip
    have hnil : ∀ i, i < n → pAt xs p i = false := by
      rcases hx0 with ⟨k, hk, rfl, _, _⟩ | ⟨_, h⟩
      · simp only [decide_eq_true_eq] at h0; omega
      · exact h
    refine sq (h := ?_)
    refine rg (h := ?_)
    refine WL.y (hy := mv) (h := ?_)
    refine WL.y (hy := asg) (h := ?_)
    refine nl (h := ?_)
    refine q_seq (h := ?_)
    refine rtn (h := ?_)
    refine q_then_ret (h := ?_)
    refine q_ret (hR := ?_)
    have hf : xs.filter (fun x => !p x) = xs := List.filter_eq_self.2 fun y hy => by
      obtain ⟨i, hi, rfl⟩ := List.getElem_of_mem hy
      have := hnil i (by omega)
      rw [pAt_eq (s := xs[i]) (List.getElem?_eq_getElem hi)] at this
      simp [this]
    exact fun w hS => ⟨(), trivial, by rw [hf, hlen]; rfl, by rw [hf, hlen]; simpa using hS⟩
  · skip
    obtain ⟨k, hk, rfl, hpk, hall⟩ : ∃ k : Nat, k < n ∧ x0 = k ∧ pAt xs p k = true ∧ ∀ i, i < k → pAt xs p i = false := by
      rcases hx0 with h | ⟨rfl, _⟩
      · exact h
      · simp at h0
    obtain ⟨x, hx⟩ : ∃ x, xs[k]? = some x := ⟨_, List.getElem?_eq_getElem (by omega)⟩
    have hpx : p x = true := by rw [pAt_eq hx] at hpk; exact hpk
    refine skp (h := ?_)
    refine q_seq (h := ?_)
    refine sq (h := ?_)
    refine sq (h := ?_)
    refine rg (h := ?_)
    refine WL.y (hy := mv) (h := ?_)
    refine WL.y (hy := addI) (h := ?_)
    refine WL.y (hy := asg) (h := ?_)
    refine nl (h := ?_)
    refine q_seq (h := ?_)
    refine bk (h := ?_)
    refine lp (X := DS) (I := fun z => z.Ok xs p) (le := fun z => [(0, .slice A n c), (1, .func (.func g) fi.toArray cap.toArray), (5, .int .i64 z.i), (6, .int .i64 z.j)]) (Le := fun z => Lp ++ (.own A c 3 1 n (encI z.zs) :: R)) (μ := fun z => n - z.j) ⟨k, k + 1, xs⟩ (DS.start hx hpx hall) (by repeat (first | exact trivial | refine ⟨rfl, ?_⟩)) (SubL.refl _) (fun z hz => ?_)
    have hzl := hz.len
    have hzlt := hz.lt
    have hzle := hz.le
    refine sq (h := ?_)
    refine sq (h := ?_)
    refine rg (h := ?_)
    refine WL.y (hy := mv) (h := ?_)
    refine WL.y (hy := mv) (h := ?_)
    refine WL.y (hy := lenS) (h := ?_)
    refine WL.y (hy := lss) (h := ?_)
    refine nl (h := ?_)
    refine q_seq (h := ?_)
    refine cd (by exact rfl) (fun h1 => ?_) (fun h1 => ?_)
    · skip
      have hjn : z.j < n := by simp only [decide_eq_true_eq] at h1; omega
      obtain ⟨x, hxj⟩ : ∃ x, z.zs[z.j]? = some x := ⟨_, List.getElem?_eq_getElem (by omega)⟩
      have hxe := encI_at hxj
      obtain ⟨y, hyi⟩ : ∃ y, z.zs[z.i]? = some y := ⟨_, List.getElem?_eq_getElem (by omega)⟩
      have hye := encI_at hyi
      refine skp (h := ?_)
      refine q_seq (h := ?_)
      refine sq (h := ?_)
      refine bk (h := ?_)
      refine sq (h := ?_)
      refine rg (h := ?_)
      refine WL.y (hy := mv) (h := ?_)
      refine WL.y (hy := mv) (h := ?_)
      refine WL.y (hy := ix (hr := hrds Lp z.zs) (hb := by omega)) (h := ?_)
      refine WL.y (hy := ldE (hr := hrds Lp z.zs) (hk := hxe)) (h := ?_)
      refine WL.y (hy := asg) (h := ?_)
      refine nl (h := ?_)
      refine q_seq (h := ?_)
      refine sq (h := ?_)
      refine rg (h := ?_)
      refine WL.y (hy := mv) (h := ?_)
      refine WL.y (hy := mv) (h := ?_)
      refine clfT hg (fi := fi) (cap := cap) (by exact rfl) (by repeat (first | exact Evs.nil | (apply Evs.cons; exact rfl))) (hp x) rfl (Spl.app _ _) (h := fun _ _ => ?_)
      refine WL.y (hy := notB) (h := ?_)
      refine nl (h := ?_)
      refine q_seq (h := ?_)
      refine cd (by exact rfl) (fun h2 => ?_) (fun h2 => ?_)
      · skip
        have hpj : p x = false := by simpa using h2
        refine sq (h := ?_)
        refine rg (h := ?_)
        refine WL.y (hy := mv) (h := ?_)
        refine WL.y (hy := mv) (h := ?_)
        refine WL.y (hy := mv) (h := ?_)
        refine WL.y (hy := ix (hr := hrds Lp z.zs) (hb := by omega)) (h := ?_)
        refine stE (k := z.i) (j := 0) (ha := At.app _ _) (hk := hye) (h := ?_)
        rw [show ([Value.int .i64 y].set 0 (.int .i64 x)) = [.int .i64 x] from rfl, encI_set]
        refine nl (h := ?_)
        refine q_seq (h := ?_)
        refine rg (h := ?_)
        refine WL.y (hy := mv) (h := ?_)
        refine WL.y (hy := addI) (h := ?_)
        refine WL.y (hy := asg) (h := ?_)
        refine nl (h := ?_)
        refine q_blk_norm (h := ?_)
        refine q_seq (h := ?_)
        refine rg (h := ?_)
        refine WL.y (hy := mv) (h := ?_)
        refine WL.y (hy := addI) (h := ?_)
        refine WL.y (hy := asg) (h := ?_)
        refine nl (h := ?_)
        first
          | refine rn (x := z) ⟨z.i + 1, z.j + 1, z.zs.set z.i x⟩ (DS.keep hz hxj (by omega) hpj) (by dsimp only; omega) (by repeat (first | exact trivial | refine ⟨rfl, ?_⟩)) (SubL.mid _ _)
          | refine rn (x := z) ⟨z.i, z.j + 1, z.zs⟩ (DS.drop_ hz hxj (by omega) hpj) (by dsimp only; omega) (by repeat (first | exact trivial | refine ⟨rfl, ?_⟩)) (SubL.refl _)
      · skip
        have hpj : p x = true := by simpa using h2
        refine skp (h := ?_)
        refine q_blk_norm (h := ?_)
        refine q_seq (h := ?_)
        refine rg (h := ?_)
        refine WL.y (hy := mv) (h := ?_)
        refine WL.y (hy := addI) (h := ?_)
        refine WL.y (hy := asg) (h := ?_)
        refine nl (h := ?_)
        first
          | refine rn (x := z) ⟨z.i + 1, z.j + 1, z.zs.set z.i x⟩ (DS.keep hz hxj (by omega) hpj) (by dsimp only; omega) (by repeat (first | exact trivial | refine ⟨rfl, ?_⟩)) (SubL.mid _ _)
          | refine rn (x := z) ⟨z.i, z.j + 1, z.zs⟩ (DS.drop_ hz hxj (by omega) hpj) (by dsimp only; omega) (by repeat (first | exact trivial | refine ⟨rfl, ?_⟩)) (SubL.refl _)
    · skip
      have hjn : z.j = xs.length := by simp only [decide_eq_false_iff_not] at h1; omega
      refine et (h := ?_)
      refine q_then_exit (h := ?_)
      refine q_then_exit (h := ?_)
      refine q_blk_hit (h := ?_)
      refine q_seq (h := ?_)
      refine sq (h := ?_)
      refine rg (h := ?_)
      refine WL.y (hy := mv) (h := ?_)
      refine WL.y (hy := mv) (h := ?_)
      refine WL.y (hy := slV (A := A) (m := n) (cap := c) (lo' := z.i) (hi' := n) (hh := .inl ⟨rfl, rfl⟩) (hl := .inr ⟨_, _, _, rfl, rfl, by omega, by omega, by omega⟩)) (h := ?_)
      refine clr (lo := z.i) (ha := At.app _ _) (hlo := by omega) (h := fun es' hes' => ?_)
      refine nl (h := ?_)
      refine q_seq (h := ?_)
      refine sq (h := ?_)
      refine WC.room .here (fun hroom => ?_)
      refine WC.shrink .here (m := z.i) (by omega) ?_
      refine rg (h := ?_)
      refine WL.y (hy := mv) (h := ?_)
      refine WL.y (hy := mv) (h := ?_)
      refine WL.y (hy := slP (A := A) (m := n) (cap := c) (hi' := z.i) (hc := by omega)) (h := ?_)
      refine WL.y (hy := asg) (h := ?_)
      refine nl (h := ?_)
      refine q_seq (h := ?_)
      refine rtn (h := ?_)
      refine q_ret (hR := ?_)
      have hf := DS.fin hz hjn
      have hl : (xs.filter fun x => !p x).length = z.i := by rw [← hf, List.length_take]; omega
      rw [hes', encI_take, hf]
      exact fun w hS => ⟨(), trivial, by rw [hl]; rfl, by rw [hl]; simpa using hS.sub (SubL.mid _ _)⟩
end Go.Proofs.Ytdphljhhcaoleaa
