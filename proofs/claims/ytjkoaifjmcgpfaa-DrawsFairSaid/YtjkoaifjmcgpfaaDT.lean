/- Walks of the document's answers on draws: the choices in order, how many, which fit. -/
import Derived.Test.YtjkoaifjmcgpfaaDW
namespace Go.Proofs.Ytjkoaifjmcgpfaa
open Go Go.RowKit

def insL (l : List Int) (n : Int) : List Int := l.takeWhile (fun x => decide (x < n)) ++ n :: l.dropWhile (fun x => decide (x < n))
theorem ins_at {l : List Int} {n : Int} {k : Nat} (hk : k ≤ l.length) (hb : ∀ j, j < k → pAt l (fun x => decide (x < n)) j = true) (he : k = l.length ∨ pAt l (fun x => decide (x < n)) k = false) : insL l n = l.take k ++ n :: l.drop k := by
  have h1 : ∀ x ∈ l.take k, decide (x < n) = true := fun x hx => by
    obtain ⟨j, hj, rfl⟩ := List.getElem_of_mem hx
    have hj' : j < k := by rw [List.length_take] at hj; omega
    have := hb j hj'
    rw [pAt_eq (List.getElem?_eq_getElem (by omega))] at this
    rw [List.getElem_take]; exact this
  have h2 : (l.drop k).takeWhile (fun x => decide (x < n)) = [] ∧ (l.drop k).dropWhile (fun x => decide (x < n)) = l.drop k := by
    rcases he with rfl | he
    · rw [List.drop_length]; exact ⟨rfl, rfl⟩
    · by_cases hkl : k = l.length
      · rw [hkl, List.drop_length]; exact ⟨rfl, rfl⟩
      · have hx : l[k]? = some l[k] := List.getElem?_eq_getElem (by omega)
        rw [pAt_eq hx] at he
        rw [List.drop_eq_getElem_cons (by omega), List.takeWhile_cons, List.dropWhile_cons, he]
        exact ⟨rfl, rfl⟩
  unfold insL
  have e := List.take_append_drop k l
  have e1 : l.takeWhile (fun x => decide (x < n)) = l.take k := by
    conv => lhs; rw [← e]
    rw [List.takeWhile_append_of_pos h1, h2.1, List.append_nil]
  have e2 : l.dropWhile (fun x => decide (x < n)) = l.drop k := by
    conv => lhs; rw [← e]
    rw [List.dropWhile_append_of_pos h1, h2.2]
  rw [e1, e2]
theorem ins_len (l : List Int) (n : Int) : (insL l n).length = l.length + 1 := by
  have := congrArg List.length (List.takeWhile_append_dropWhile (p := fun x => decide (x < n)) (l := l))
  unfold insL
  simp only [List.length_append, List.length_cons] at this ⊢
  omega
def ordTo (ps : List Ps) : Nat → List Int
  | 0 => []
  | k + 1 => match ps[k]? with
    | some x => insL (ordTo ps k) x.player
    | none => ordTo ps k
theorem ord_succ {ps : List Ps} {k : Nat} {x : Ps} (h : ps[k]? = some x) : ordTo ps (k + 1) = insL (ordTo ps k) x.player := by rw [ordTo, h]
theorem ord_len (ps : List Ps) : ∀ k, k ≤ ps.length → (ordTo ps k).length = k
  | 0, _ => rfl
  | k + 1, hk => by rw [ord_succ (List.getElem?_eq_getElem (by omega)), ins_len, ord_len ps k (by omega)]
theorem getD_some {l : List Int} {k : Nat} (h : k < l.length) : l[k]? = some (l.getD k 0) := by
  rw [List.getD_eq_getElem?_getD, List.getElem?_eq_getElem h]; rfl
structure AZ where
  (k : Nat) (A : Option Addr) (c : Nat)
set_option maxRecDepth 100000 in
set_option maxHeartbeats 2000000 in
theorem C_ordered (p : Pl) (a : PA) (hn : p.ps.length ≤ 1000) (w : World) (h : PRd w p a) : CR Try.prog 78 [p.val a] w (fun _ : Option Addr × Nat => True) (fun x => .slice x.1 p.ps.length x.2) (fun x => [.own x.1 x.2 3 1 p.ps.length (enI (ordTo p.ps p.ps.length))]) := by
  obtain ⟨hp, hl, hpn, hln, hpc⟩ := h
  refine ⟨en Try.func78 Try.ntmps78 (((St.init w).share (e := .ro a.pA 3 p.ps.length (encPs p.ps)) hp rfl rfl rfl).share (e := .ro a.lA 1 p.lots.length (enI p.lots)) hl rfl rfl rfl) (h := fun F => ?_)⟩
  refine sq (h := ?_)
  refine rg (h := ?_)
  refine bxA (h := fun b0 => ?_)
  refine WL.y (hy := asg) (h := ?_)
  refine nl (h := ?_)
  refine q_seq (h := ?_)
  refine sq (h := ?_)
  refine rg (h := ?_)
  refine WL.y (hy := asg) (h := ?_)
  refine nl (h := ?_)
  refine q_seq (h := ?_)
  refine sq (h := ?_)
  refine sq (h := ?_)
  refine WC.nilOwn 3 1 (h := ?_)
  refine rg (h := ?_)
  refine WL.y (hy := asg) (h := ?_)
  refine nl (h := ?_)
  refine q_seq (h := ?_)
  refine bk (h := ?_)
  refine lp (X := AZ) (I := fun z => z.k ≤ p.ps.length) (le := fun z => [(1, .pointer (some ⟨b0, 0, none⟩)), (3, .slice z.A z.k z.c), (4, .int .i64 z.k)]) (Le := fun z => .own z.A z.c 3 1 z.k (enI (ordTo p.ps z.k)) :: plL p a b0) (μ := fun z => p.ps.length - z.k) ⟨0, none, 0⟩ (Nat.zero_le _) (by repeat (first | exact trivial | refine ⟨rfl, ?_⟩)) (by repeat (first | exact SubL.nil | (apply SubL.cons; (repeat (first | exact At.here | apply At.there))) | exact SubL.refl _ | apply SubL.skip)) (fun z hz => ?_)
  refine sq (h := ?_)
  refine sq (h := ?_)
  refine rg (h := ?_)
  refine WL.y (hy := mv) (h := ?_)
  refine WL.y (hy := (by first | exact fa | exact faE)) (h := ?_)
  refine WL.y (hy := (by first | exact ld | exact ldE)) (h := ?_)
  refine WL.y (hy := lenS) (h := ?_)
  refine WL.y (hy := lss) (h := ?_)
  refine nl (h := ?_)
  refine q_seq (h := ?_)
  refine cd (by exact rfl) (fun h0 => ?_) (fun h0 => ?_)
  · skip
    have hkn : z.k < p.ps.length := by simp only [decide_eq_true_eq] at h0; omega
    obtain ⟨x, hx1⟩ : ∃ x, p.ps[z.k]? = some x := ⟨_, List.getElem?_eq_getElem hkn⟩
    have hxe := encPs_at hx1
    have hst := ord_succ hx1
    have hol := ord_len p.ps z.k hz
    refine skp (h := ?_)
    refine q_seq (h := ?_)
    refine sq (h := ?_)
    refine bk (h := ?_)
    refine sq (h := ?_)
    refine rg (h := ?_)
    refine WL.y (hy := (by first | exact fa | exact faE)) (h := ?_)
    refine WL.y (hy := (by first | exact ld | exact ldE)) (h := ?_)
    refine WL.y (hy := mv) (h := ?_)
    refine WL.y (hy := ix (A := a.pA) (m := p.ps.length)) (h := ?_)
    refine WL.y (hy := (by first | exact fa | exact faE)) (h := ?_)
    refine WL.y (hy := ldE (A := a.pA) (hk := hxe)) (h := ?_)
    refine WL.y (hy := asg) (h := ?_)
    refine nl (h := ?_)
    refine q_seq (h := ?_)
    refine sq (h := ?_)
    refine rg (h := ?_)
    refine WL.y (hy := asg) (h := ?_)
    refine nl (h := ?_)
    refine q_seq (h := ?_)
    refine sq (h := ?_)
    refine bk (h := ?_)
    refine lp (X := IZ) (I := fun u => u.k ≤ z.k ∧ ∀ j, j < u.k → pAt (ordTo p.ps z.k) (fun y => decide (y < x.player)) j = true) (le := fun u => [(1, .pointer (some ⟨b0, 0, none⟩)), (3, .slice z.A z.k z.c), (4, .int .i64 z.k), (5, .int .i64 x.player), (6, .int .i64 u.k)]) (Le := fun u => .own z.A z.c 3 1 z.k (enI (ordTo p.ps z.k)) :: plL p a b0) (μ := fun u => z.k - u.k) ⟨0⟩ ⟨Nat.zero_le _, fun j hj => by cases hj⟩ (by repeat (first | exact trivial | refine ⟨rfl, ?_⟩)) (by repeat (first | exact SubL.nil | (apply SubL.cons; (repeat (first | exact At.here | apply At.there))) | exact SubL.refl _ | apply SubL.skip)) (fun u hu => ?_)
    obtain ⟨hu1, hu2⟩ := hu
    refine sq (h := ?_)
    refine sq (h := ?_)
    refine rg (h := ?_)
    refine WL.y (hy := mv) (h := ?_)
    refine WL.y (hy := mv) (h := ?_)
    refine WL.y (hy := lenS) (h := ?_)
    refine WL.y (hy := lss) (h := ?_)
    refine WL.y (hy := mv) (h := ?_)
    apply brAnd 7 25 32 (by exact rfl)
    · intro hb1
      have hun : u.k < z.k := by simp only [decide_eq_true_eq] at hb1; omega
      have hve := enI_at (getD_some (l := ordTo p.ps z.k) (k := u.k) (by omega))
      refine un (h := ?_)
      refine WL.y (hy := mv) (h := ?_)
      refine un (h := ?_)
      refine WL.y (hy := mv) (h := ?_)
      refine un (h := ?_)
      refine WL.y (hy := ix (A := z.A) (m := z.k)) (h := ?_)
      refine un (h := ?_)
      refine WL.y (hy := ldE (A := z.A) (hk := hve)) (h := ?_)
      refine un (h := ?_)
      refine WL.y (hy := mv) (h := ?_)
      refine un (h := ?_)
      refine WL.y (hy := lss) (h := ?_)
      refine WL.y (hy := (by first | exact pkT | exact pkF)) (h := ?_)
      exact mg (by repeat (first | exact trivial | refine ⟨rfl, ?_⟩ | refine ⟨by rw [hb1]; rfl, ?_⟩)) (by repeat (first | exact SubL.nil | (apply SubL.cons; (repeat (first | exact At.here | apply At.there))) | exact SubL.refl _ | apply SubL.skip))
    · intro hb1
      repeat (first | refine un (h := ?_) | refine sk (h := ?_) | refine WL.y (hy := pkF) (h := ?_) | refine WL.y (hy := pkT) (h := ?_))
      exact mg (by repeat (first | exact trivial | refine ⟨rfl, ?_⟩ | refine ⟨by rw [hb1]; rfl, ?_⟩)) (by repeat (first | exact SubL.nil | (apply SubL.cons; (repeat (first | exact At.here | apply At.there))) | exact SubL.refl _ | apply SubL.skip))
    refine nl (h := ?_)
    refine q_seq (h := ?_)
    refine cd (by exact rfl) (fun h2 => ?_) (fun h2 => ?_)
    · skip
      have hgo2 := h2
      simp only [Bool.and_eq_true, decide_eq_true_eq] at hgo2
      have hgo : pAt (ordTo p.ps z.k) (fun y => decide (y < x.player)) u.k = true := by rw [pAt_eq (getD_some (by omega))]; exact decide_eq_true hgo2.2
      refine skp (h := ?_)
      refine q_seq (h := ?_)
      refine bk (h := ?_)
      refine rg (h := ?_)
      refine WL.y (hy := mv) (h := ?_)
      refine WL.y (hy := addI) (h := ?_)
      refine WL.y (hy := asg) (h := ?_)
      refine nl (h := ?_)
      refine q_blk_norm (h := ?_)
      refine rn (x := u) ⟨u.k + 1⟩ ⟨by dsimp only; omega, fun j hj => by
        rcases Nat.lt_succ_iff_lt_or_eq.1 hj with h | rfl
        · exact hu2 j h
        · exact hgo⟩ (by dsimp only; omega) (by repeat (first | exact trivial | refine ⟨rfl, ?_⟩)) (by repeat (first | exact SubL.nil | (apply SubL.cons; (repeat (first | exact At.here | apply At.there))) | exact SubL.refl _ | apply SubL.skip))
    · skip
      have hgo2 := h2
      have hend : u.k = (ordTo p.ps z.k).length ∨ pAt (ordTo p.ps z.k) (fun y => decide (y < x.player)) u.k = false := by
        by_cases hun : u.k < z.k
        · right
          rw [pAt_eq (getD_some (by omega))]
          simp only [Bool.and_eq_false_iff, decide_eq_false_iff_not] at hgo2
          exact decide_eq_false (by omega)
        · left; omega
      refine et (h := ?_)
      refine q_then_exit (h := ?_)
      refine q_then_exit (h := ?_)
      refine q_blk_hit (h := ?_)
      refine q_seq (h := ?_)
      refine sq (h := ?_)
      have hins : insL (ordTo p.ps z.k) x.player = (ordTo p.ps z.k).take u.k ++ x.player :: (ordTo p.ps z.k).drop u.k := ins_at (by omega) hu2 hend
      refine WC.room (A := z.A) (k := z.k) (by repeat (first | exact At.here | apply At.there)) (h := fun hroom => ?_)
      refine WC.toRo (A := z.A) (m := z.k) (by repeat (first | exact At.here | apply At.there)) ?_
      refine WC.part (A := z.A) (m := z.k) (cap := z.c) (by repeat (first | exact At.here | apply At.there)) u.k z.k (by omega) (Nat.le_refl _) (by omega) ?_
      refine WC.pre (A := z.A) (m := z.k) (by repeat (first | exact At.here | apply At.there)) u.k (by omega) ?_
      refine rg (h := ?_)
      refine WL.y (hy := mv) (h := ?_)
      refine bs (h := fun b1 => ?_)
      refine WL.y (hy := mv) (h := ?_)
      refine WL.y (hy := mv) (h := ?_)
      refine WL.y (hy := slV (A := z.A) (m := z.k) (cap := z.c) (lo' := u.k) (hi' := z.k) (hh := .inl ⟨rfl, rfl⟩) (hl := .inr ⟨_, _, _, rfl, rfl, by omega, by omega, by omega⟩)) (h := ?_)
      first | refine ap (h := fun A1 c1 => ?_) | refine ap0 (h := fun A1 c1 => ?_)
      refine WL.y (hy := asg) (h := ?_)
      refine nl (h := ?_)
      refine q_seq (h := ?_)
      refine rg (h := ?_)
      refine bs (h := fun b2 => ?_)
      refine WL.y (hy := mv) (h := ?_)
      refine WL.y (hy := mv) (h := ?_)
      refine WL.y (hy := slP (A := z.A) (m := z.k) (cap := z.c) (hi' := u.k) (hc := by omega)) (h := ?_)
      first | refine ap (h := fun A2 c2 => ?_) | refine ap0 (h := fun A2 c2 => ?_)
      refine WL.y (hy := mv) (h := ?_)
      first | refine ap (h := fun A3 c3 => ?_) | refine ap0 (h := fun A3 c3 => ?_)
      refine WL.y (hy := asg) (h := ?_)
      refine nl (h := ?_)
      refine q_blk_norm (h := ?_)
      refine q_seq (h := ?_)
      have hfe : enI (ordTo p.ps (z.k + 1)) = [] ++ List.take u.k (enI (ordTo p.ps z.k)) ++ ([[.int .i64 x.player]] ++ List.take (z.k - u.k) (List.drop u.k (enI (ordTo p.ps z.k)))) := by
        rw [hst, hins, List.take_of_length_le (l := List.drop u.k _) (by rw [List.length_drop, enI_len]; omega)]
        simp [enI, List.map_take, List.map_drop]; rfl
      have hfl : z.k + 1 = 0 + u.k + (1 + (z.k - u.k)) := by omega
      refine rg (h := ?_)
      refine WL.y (hy := mv) (h := ?_)
      refine WL.y (hy := addI) (h := ?_)
      refine WL.y (hy := asg) (h := ?_)
      refine nl (h := ?_)
      refine rn (x := z) ⟨z.k + 1, _, _⟩ (by dsimp only; omega) (by dsimp only; omega) (by dsimp only; repeat (first | exact trivial | refine ⟨rfl, ?_⟩ | refine ⟨by rw [hfl]; rfl, ?_⟩)) (by dsimp only; rw [hfe, hfl]; repeat (first | exact SubL.nil | (apply SubL.cons; (repeat (first | exact At.here | apply At.there))) | exact SubL.refl _ | apply SubL.skip))
  · skip
    have hkn : z.k = p.ps.length := by simp only [decide_eq_false_iff_not] at h0; omega
    rw [hkn]
    refine et (h := ?_)
    refine q_then_exit (h := ?_)
    refine q_then_exit (h := ?_)
    refine q_blk_hit (h := ?_)
    refine q_seq (h := ?_)
    refine sq (h := ?_)
    refine rg (h := ?_)
    refine WL.y (hy := mv) (h := ?_)
    refine WL.y (hy := asg) (h := ?_)
    refine nl (h := ?_)
    refine q_seq (h := ?_)
    refine rtn (h := ?_)
    refine q_ret (hR := ?_)
    exact fun w hS => ⟨(z.A, z.c), trivial, rfl, hS.sub (by repeat (first | exact SubL.nil | (apply SubL.cons; (repeat (first | exact At.here | apply At.there))) | exact SubL.refl _ | apply SubL.skip))⟩
theorem C_many (l : List Int) (x : Int) (A : Option Addr) (n c : Nat) (hl : l.length = n) (hn : n ≤ 1000) (w : World) (h : Rd w A 1 n (enI l)) : C0 Try.prog 79 [.slice A n c, .int .i64 x] w (.int .i64 (l.count x)) := by
  refine ⟨en Try.func79 Try.ntmps79 ((St.init w).share (e := .ro A 1 n (enI l)) h rfl rfl rfl) (h := fun F => ?_)⟩
  refine sq (h := ?_)
  refine rg (h := ?_)
  refine WL.y (hy := asg) (h := ?_)
  refine nl (h := ?_)
  refine q_seq (h := ?_)
  refine sq (h := ?_)
  refine rg (h := ?_)
  refine WL.y (hy := asg) (h := ?_)
  refine nl (h := ?_)
  refine q_seq (h := ?_)
  refine sq (h := ?_)
  refine sq (h := ?_)
  refine rg (h := ?_)
  refine WL.y (hy := asg) (h := ?_)
  refine nl (h := ?_)
  refine q_seq (h := ?_)
  refine bk (h := ?_)
  refine lp (X := IZ) (I := fun z => z.k ≤ n) (le := fun z => [(0, .slice A n c), (1, .int .i64 x), (5, .int .i64 ((l.take z.k).count x : Nat)), (6, .int .i64 z.k)]) (Le := fun _ => [.ro A 1 n (enI l)]) (μ := fun z => n - z.k) ⟨0⟩ (Nat.zero_le _) (by repeat (first | exact trivial | refine ⟨rfl, ?_⟩)) (by repeat (first | exact SubL.nil | (apply SubL.cons; (repeat (first | exact At.here | apply At.there))) | exact SubL.refl _ | apply SubL.skip)) (fun z hz => ?_)
  refine sq (h := ?_)
  refine sq (h := ?_)
  refine rg (h := ?_)
  refine WL.y (hy := mv) (h := ?_)
  refine WL.y (hy := mv) (h := ?_)
  refine WL.y (hy := lenS) (h := ?_)
  refine WL.y (hy := lss) (h := ?_)
  refine nl (h := ?_)
  refine q_seq (h := ?_)
  refine cd (by exact rfl) (fun h0 => ?_) (fun h0 => ?_)
  · skip
    have hkn : z.k < n := by simp only [decide_eq_true_eq] at h0; omega
    obtain ⟨y, hy1⟩ : ∃ y, l[z.k]? = some y := ⟨_, List.getElem?_eq_getElem (by omega)⟩
    have hye := enI_at hy1
    have hst : (l.take (z.k + 1)).count x = (l.take z.k).count x + (bif decide (y = x) then 1 else 0) := by rw [List.take_add_one, hy1, List.count_append]; by_cases e : y = x <;> simp [e]
    have hle : (l.take z.k).count x ≤ z.k := Nat.le_trans (List.count_le_length) (by rw [List.length_take]; omega)
    refine skp (h := ?_)
    refine q_seq (h := ?_)
    refine sq (h := ?_)
    refine bk (h := ?_)
    refine sq (h := ?_)
    refine rg (h := ?_)
    refine WL.y (hy := mv) (h := ?_)
    refine WL.y (hy := mv) (h := ?_)
    refine WL.y (hy := ix (A := A) (m := n)) (h := ?_)
    refine WL.y (hy := ldE (A := A) (hk := hye)) (h := ?_)
    refine WL.y (hy := mv) (h := ?_)
    refine WL.y (hy := eql) (h := ?_)
    refine nl (h := ?_)
    refine q_seq (h := ?_)
    refine cd (by exact rfl) (fun h1 => ?_) (fun h1 => ?_)
    · skip
      have hst2 : ((((l.take (z.k + 1)).count x) : Nat) : Int) = (((l.take z.k).count x : Nat) : Int) + 1 := by rw [hst, h1]; simp
      refine rg (h := ?_)
      refine WL.y (hy := mv) (h := ?_)
      refine WL.y (hy := addI) (h := ?_)
      refine WL.y (hy := asg) (h := ?_)
      refine nl (h := ?_)
      refine q_blk_norm (h := ?_)
      refine q_seq (h := ?_)
      refine rg (h := ?_)
      refine WL.y (hy := mv) (h := ?_)
      refine WL.y (hy := addI) (h := ?_)
      refine WL.y (hy := asg) (h := ?_)
      refine nl (h := ?_)
      refine rn (x := z) ⟨z.k + 1⟩ (by dsimp only; omega) (by dsimp only; omega) (by dsimp only; rw [hst2]; repeat (first | exact trivial | refine ⟨rfl, ?_⟩)) (by repeat (first | exact SubL.nil | (apply SubL.cons; (repeat (first | exact At.here | apply At.there))) | exact SubL.refl _ | apply SubL.skip))
    · skip
      have hst2 : (l.take (z.k + 1)).count x = (l.take z.k).count x := by rw [hst, h1]; simp
      refine skp (h := ?_)
      refine q_blk_norm (h := ?_)
      refine q_seq (h := ?_)
      refine rg (h := ?_)
      refine WL.y (hy := mv) (h := ?_)
      refine WL.y (hy := addI) (h := ?_)
      refine WL.y (hy := asg) (h := ?_)
      refine nl (h := ?_)
      refine rn (x := z) ⟨z.k + 1⟩ (by dsimp only; omega) (by dsimp only; omega) (by dsimp only; rw [hst2]; repeat (first | exact trivial | refine ⟨rfl, ?_⟩)) (by repeat (first | exact SubL.nil | (apply SubL.cons; (repeat (first | exact At.here | apply At.there))) | exact SubL.refl _ | apply SubL.skip))
  · skip
    have hkn : z.k = n := by simp only [decide_eq_false_iff_not] at h0; omega
    rw [hkn, List.take_of_length_le (by omega)]
    refine et (h := ?_)
    refine q_then_exit (h := ?_)
    refine q_then_exit (h := ?_)
    refine q_blk_hit (h := ?_)
    refine q_seq (h := ?_)
    refine sq (h := ?_)
    refine rg (h := ?_)
    refine WL.y (hy := mv) (h := ?_)
    refine WL.y (hy := asg) (h := ?_)
    refine nl (h := ?_)
    refine q_seq (h := ?_)
    refine rtn (h := ?_)
    refine q_ret (hR := ?_)
    exact fun w hS => ⟨rfl, hS.sub (by repeat (first | exact SubL.nil | (apply SubL.cons; (repeat (first | exact At.here | apply At.there))) | exact SubL.refl _ | apply SubL.skip))⟩
/-! #### what fits -/
def fitF (p : Pl) (now : List Int) (k : Nat) : Bool := decide ((k : Int) % 2 = 1) && !apartV p (numV p (now.getD (k - 1) 0)) (numV p (now.getD k 0))
def fitS (p : Pl) (k : Nat) (y : Int) (s : Nat) : Bool := bif decide ((s : Int) = 0) then (decide (y = (psAt p s).player) == decide ((k : Int) = 0)) else bif decide ((s : Int) = 1) then (decide (y = (psAt p s).player) == decide ((k : Int) = p.size - 1)) else !((decide (y = (psAt p s).player) && !decide ((k : Int) = p.size / 4)) && !decide ((k : Int) = p.size - 1 - p.size / 4))
def fitTo (p : Pl) (k : Nat) (y : Int) : Nat → Bool
  | 0 => true
  | s + 1 => fitTo p k y s && fitS p k y s
theorem fitTo_le {p : Pl} {k : Nat} {y : Int} {j : Nat} (h : fitTo p k y j = false) : ∀ {s : Nat}, j ≤ s → fitTo p k y s = false
  | 0, hk => by obtain rfl : j = 0 := by omega
                exact h
  | s + 1, hk => by
    by_cases e : j = s + 1
    · subst e; exact h
    · rw [fitTo, fitTo_le h (s := s) (by omega)]; rfl
def fitV (p : Pl) (now : List Int) : Bool := !fitF p now (now.length - 1) && fitTo p (now.length - 1) (now.getD (now.length - 1) 0) p.seeds.toNat
set_option maxRecDepth 100000 in
set_option maxHeartbeats 4000000 in
theorem C_fits (p : Pl) (a : PA) (l : List Int) (A : Option Addr) (k c : Nat) (hq : p.Ok) (hn : l.length = k + 1) (hk : k < 1000) (hsh : ∀ y ∈ l, ShP p y) (w : World) (h : PRd w p a) (hA : Rd w A 1 (k + 1) (enI l)) : C0 Try.prog 80 [p.val a, .slice A (k + 1) c] w (.bool (fitV p l)) := by
  obtain ⟨hp, hl, hpn, hln, hpc⟩ := h
  have hz := hq.z
  have hqn := hq.n
  have hqs := hq.s
  have hk1 : (((k + 1 : Nat)) : Int) - 1 = (k : Int) := by omega
  have hk2 : l.length - 1 = k := by omega
  have hy1 := getD_some (l := l) (k := k) (by omega)
  have hye := enI_at hy1
  have hys := hsh _ (List.mem_of_getElem? hy1)
  refine ⟨en Try.func80 Try.ntmps80 ((((St.init w).share (e := .ro a.pA 3 p.ps.length (encPs p.ps)) hp rfl rfl rfl).share (e := .ro a.lA 1 p.lots.length (enI p.lots)) hl rfl rfl rfl).share (e := .ro A 1 (k + 1) (enI l)) hA rfl rfl rfl) (h := fun F => ?_)⟩
  refine sq (h := ?_)
  refine rg (h := ?_)
  refine bxA (h := fun b0 => ?_)
  refine WL.y (hy := asg) (h := ?_)
  refine nl (h := ?_)
  refine q_seq (h := ?_)
  refine sq (h := ?_)
  refine rg (h := ?_)
  refine WL.y (hy := mv) (h := ?_)
  refine WL.y (hy := lenS) (h := ?_)
  refine WL.y (hy := subI) (h := ?_)
  refine WL.y (hy := asg) (h := ?_)
  rw [hk1]
  refine nl (h := ?_)
  refine q_seq (h := ?_)
  refine sq (h := ?_)
  refine ct (X := Bool) (fun s => s = fitF p l k) (fun s => [(1, .slice A (k + 1) c), (2, .pointer (some ⟨b0, 0, none⟩)), (5, .int .i64 k), (27, .bool s)]) (fun _ => .ro A 1 (k + 1) (enI l) :: plL p a b0) (h1 := ?_) (h2 := ?_)
  · skip
    refine rgD0 (by kernel_rfl) (h := ?_)
    refine tk 0 (hy := mv) (h := ?_)
    refine tk 1 (hy := remI) (h := ?_)
    refine tk 2 (hy := eql) (h := ?_)
    refine tk 3 (hy := mv) (h := ?_)
    refine brH (g := 14) (by exact rfl) (fun hb0 => ?_) (fun hb0 => ?_)
    · skip
      have hod : 0 < k := by have := of_decide_eq_true hb0; omega
      have hx1 := getD_some (l := l) (k := k - 1) (by omega)
      have hxs := hsh _ (List.mem_of_getElem? hx1)
      have hxe : (enI l)[((k : Int) - 1).toNat]? = some [.int .i64 (l.getD (k - 1) 0)] := by rw [show ((k : Int) - 1).toNat = k - 1 by omega]; exact enI_at hx1
      refine tk 4 (hy := (by first | exact ldA | exact ldEA)) (h := ?_)
      refine tk 5 (hy := mv) (h := ?_)
      refine tk 6 (hy := mv) (h := ?_)
      refine tk 7 (hy := subI) (h := ?_)
      refine tk 8 (hy := ix (A := A) (m := k + 1)) (h := ?_)
      refine tk 9 (hy := ldE (A := A) (hk := hxe)) (h := ?_)
      refine tk 10 (hy := mv) (h := ?_)
      refine tk 11 (hy := mv) (h := ?_)
      refine tk 12 (hy := ix (A := A) (m := k + 1)) (h := ?_)
      refine tk 13 (hy := ldE (A := A) (hk := hye)) (h := ?_)
      refine one 14 (h := ?_)
      refine un (h := ?_)
      refine cl0 (hc := fun w hS => C_mayFace p a _ _ hxs hys w ⟨hS.get (by repeat (first | exact Rds.ro | apply Rds.there)), hS.get (by repeat (first | exact Rds.ro | apply Rds.there)), hpn, hln, hpc⟩) (h := ?_)
      refine nx (h := ?_)
      refine tk 15 (hy := notB) (h := ?_)
      refine tk 16 (hy := (by first | exact pkT | exact pkF)) (h := ?_)
      refine dn (h := ?_)
      refine ctnL _ (by repeat (first | exact trivial | refine ⟨rfl, ?_⟩)) (by repeat (first | exact SubL.nil | (apply SubL.cons; (repeat (first | exact At.here | apply At.there))) | exact SubL.refl _ | apply SubL.skip)) ?_
      simp only [fitF, *]
      try simp
    · skip
      refine tkS 4 (h := ?_)
      refine tkS 5 (h := ?_)
      refine tkS 6 (h := ?_)
      refine tkS 7 (h := ?_)
      refine tkS 8 (h := ?_)
      refine tkS 9 (h := ?_)
      refine tkS 10 (h := ?_)
      refine tkS 11 (h := ?_)
      refine tkS 12 (h := ?_)
      refine tkS 13 (h := ?_)
      refine tkS 14 (h := ?_)
      refine tkS 15 (h := ?_)
      refine tk 16 (hy := (by first | exact pkT | exact pkF)) (h := ?_)
      refine dn (h := ?_)
      refine ctnL _ (by repeat (first | exact trivial | refine ⟨rfl, ?_⟩)) (by repeat (first | exact SubL.nil | (apply SubL.cons; (repeat (first | exact At.here | apply At.there))) | exact SubL.refl _ | apply SubL.skip)) ?_
      simp only [fitF, *]
      try simp
  intro s hs'
  refine cd (by exact rfl) (fun h1 => ?_) (fun h1 => ?_)
  · skip
    have hE : fitV p l = false := by rw [fitV, hk2, ← hs', h1]; rfl
    refine sq (h := ?_)
    refine rg (h := ?_)
    refine WL.y (hy := asg) (h := ?_)
    refine nl (h := ?_)
    refine q_seq (h := ?_)
    refine rtn (h := ?_)
    refine q_then_ret (h := ?_)
    refine q_ret (hR := ?_)
    rw [hE]
    exact fun w hS => ⟨rfl, hS.sub (by repeat (first | exact SubL.nil | (apply SubL.cons; (repeat (first | exact At.here | apply At.there))) | exact SubL.refl _ | apply SubL.skip))⟩
  · skip
    have hfF : fitF p l k = false := by rw [← hs', h1]
    refine skp (h := ?_)
    refine q_seq (h := ?_)
    refine sq (h := ?_)
    refine sq (h := ?_)
    refine rg (h := ?_)
    refine WL.y (hy := asg) (h := ?_)
    refine nl (h := ?_)
    refine q_seq (h := ?_)
    refine bk (h := ?_)
    refine lp (X := IZ) (I := fun u => (u.k : Int) ≤ p.seeds ∧ fitTo p k (l.getD k 0) u.k = true) (le := fun u => [(1, .slice A (k + 1) c), (2, .pointer (some ⟨b0, 0, none⟩)), (5, .int .i64 k), (6, .int .i64 u.k)]) (Le := fun _ => .ro A 1 (k + 1) (enI l) :: plL p a b0) (μ := fun u => p.seeds.toNat - u.k) ⟨0⟩ ⟨by dsimp only; omega, rfl⟩ (by repeat (first | exact trivial | refine ⟨rfl, ?_⟩)) (by repeat (first | exact SubL.nil | (apply SubL.cons; (repeat (first | exact At.here | apply At.there))) | exact SubL.refl _ | apply SubL.skip)) (fun u hu => ?_)
    obtain ⟨hu1, hu2⟩ := hu
    refine sq (h := ?_)
    refine sq (h := ?_)
    refine rg (h := ?_)
    refine WL.y (hy := mv) (h := ?_)
    refine WL.y (hy := (by first | exact fa | exact faE)) (h := ?_)
    refine WL.y (hy := (by first | exact ld | exact ldE)) (h := ?_)
    refine WL.y (hy := lss) (h := ?_)
    refine nl (h := ?_)
    refine q_seq (h := ?_)
    refine cd (by exact rfl) (fun h2 => ?_) (fun h2 => ?_)
    · skip
      have hus : (u.k : Int) < p.seeds := by simpa only [decide_eq_true_eq] using h2
      obtain ⟨x, hx1⟩ : ∃ x, p.ps[u.k]? = some x := ⟨_, List.getElem?_eq_getElem (by omega)⟩
      have hxe := encPs_at hx1
      have hpx : psAt p u.k = x := by unfold psAt; rw [Int.toNat_natCast, hx1]; rfl
      refine skp (h := ?_)
      refine q_seq (h := ?_)
      refine sq (h := ?_)
      refine bk (h := ?_)
      refine sq (h := ?_)
      refine rgD0 (by kernel_rfl) (h := ?_)
      refine tk 0 (hy := mv) (h := ?_)
      refine tk 1 (hy := mv) (h := ?_)
      refine tk 2 (hy := ix (A := A) (m := k + 1)) (h := ?_)
      refine tk 3 (hy := ldE (A := A) (hk := hye)) (h := ?_)
      refine tk 4 (hy := (by first | exact fa | exact faE)) (h := ?_)
      refine tk 5 (hy := (by first | exact ld | exact ldE)) (h := ?_)
      refine tk 6 (hy := mv) (h := ?_)
      refine tk 7 (hy := ix (A := a.pA) (m := p.ps.length)) (h := ?_)
      refine tk 8 (hy := (by first | exact fa | exact faE)) (h := ?_)
      refine tk 9 (hy := ldE (A := a.pA) (hk := hxe)) (h := ?_)
      refine tk 10 (hy := eql) (h := ?_)
      refine tk 11 (hy := asg) (h := ?_)
      refine dn (h := ?_)
      refine q_seq (h := ?_)
      refine sq (h := ?_)
      refine rg (h := ?_)
      refine WL.y (hy := mv) (h := ?_)
      refine nl (h := ?_)
      refine q_seq (h := ?_)
      refine bk (h := ?_)
      refine sq (h := ?_)
      refine rg (h := ?_)
      refine WL.y (hy := eql) (h := ?_)
      refine WL.y (hy := asg) (h := ?_)
      refine nl (h := ?_)
      refine q_seq (h := ?_)
      refine cd (by exact rfl) (fun h3 => ?_) (fun h3 => ?_)
      · skip
        have hs0 := h3
        refine sq (h := ?_)
        refine rg (h := ?_)
        refine WL.y (hy := mv) (h := ?_)
        refine WL.y (hy := mv) (h := ?_)
        refine WL.y (hy := eql) (h := ?_)
        refine WL.y (hy := neqB) (h := ?_)
        refine nl (h := ?_)
        refine q_seq (h := ?_)
        refine cd (by exact rfl) (fun h4 => ?_) (fun h4 => ?_)
        · skip
          have hbad : fitS p k (l.getD k 0) u.k = false := by rw [fitS, hpx, hs0]; simpa using h4
          have hE : fitV p l = false := by rw [fitV, hk2, hfF, fitTo_le (j := u.k + 1) (by rw [fitTo, hbad, Bool.and_false]) (by omega)]; rfl
          refine sq (h := ?_)
          refine rg (h := ?_)
          refine WL.y (hy := asg) (h := ?_)
          refine nl (h := ?_)
          refine q_seq (h := ?_)
          refine rtn (h := ?_)
          refine q_blk_ret (h := ?_)
          refine q_blk_ret (h := ?_)
          refine q_then_ret (h := ?_)
          refine q_then_ret (h := ?_)
          refine q_blk_ret (h := ?_)
          refine q_then_ret (h := ?_)
          refine q_ret (hR := ?_)
          rw [hE]
          exact fun w hS => ⟨rfl, hS.sub (by repeat (first | exact SubL.nil | (apply SubL.cons; (repeat (first | exact At.here | apply At.there))) | exact SubL.refl _ | apply SubL.skip))⟩
        · skip
          have hgo : fitTo p k (l.getD k 0) (u.k + 1) = true := by rw [fitTo, hu2, fitS, hpx, hs0]; simpa using h4
          refine skp (h := ?_)
          refine q_blk_norm (h := ?_)
          refine q_blk_norm (h := ?_)
          refine q_seq (h := ?_)
          refine rg (h := ?_)
          refine WL.y (hy := mv) (h := ?_)
          refine WL.y (hy := addI) (h := ?_)
          refine WL.y (hy := asg) (h := ?_)
          refine nl (h := ?_)
          refine rn (x := u) ⟨u.k + 1⟩ ⟨by dsimp only; omega, hgo⟩ (by dsimp only; omega) (by repeat (first | exact trivial | refine ⟨rfl, ?_⟩)) (by repeat (first | exact SubL.nil | (apply SubL.cons; (repeat (first | exact At.here | apply At.there))) | exact SubL.refl _ | apply SubL.skip))
      · skip
        have hs0 := h3
        refine sq (h := ?_)
        refine rg (h := ?_)
        refine WL.y (hy := eql) (h := ?_)
        refine WL.y (hy := asg) (h := ?_)
        refine nl (h := ?_)
        refine q_seq (h := ?_)
        refine cd (by exact rfl) (fun h5 => ?_) (fun h5 => ?_)
        · skip
          have hs1 := h5
          refine sq (h := ?_)
          refine rg (h := ?_)
          refine WL.y (hy := mv) (h := ?_)
          refine WL.y (hy := mv) (h := ?_)
          refine WL.y (hy := (by first | exact fa | exact faE)) (h := ?_)
          refine WL.y (hy := (by first | exact ld | exact ldE)) (h := ?_)
          refine WL.y (hy := subI) (h := ?_)
          refine WL.y (hy := eql) (h := ?_)
          refine WL.y (hy := neqB) (h := ?_)
          refine nl (h := ?_)
          refine q_seq (h := ?_)
          refine cd (by exact rfl) (fun h6 => ?_) (fun h6 => ?_)
          · skip
            have hbad : fitS p k (l.getD k 0) u.k = false := by rw [fitS, hpx, hs0, hs1]; simpa using h6
            have hE : fitV p l = false := by rw [fitV, hk2, hfF, fitTo_le (j := u.k + 1) (by rw [fitTo, hbad, Bool.and_false]) (by omega)]; rfl
            refine sq (h := ?_)
            refine rg (h := ?_)
            refine WL.y (hy := asg) (h := ?_)
            refine nl (h := ?_)
            refine q_seq (h := ?_)
            refine rtn (h := ?_)
            refine q_blk_ret (h := ?_)
            refine q_blk_ret (h := ?_)
            refine q_then_ret (h := ?_)
            refine q_then_ret (h := ?_)
            refine q_blk_ret (h := ?_)
            refine q_then_ret (h := ?_)
            refine q_ret (hR := ?_)
            rw [hE]
            exact fun w hS => ⟨rfl, hS.sub (by repeat (first | exact SubL.nil | (apply SubL.cons; (repeat (first | exact At.here | apply At.there))) | exact SubL.refl _ | apply SubL.skip))⟩
          · skip
            have hgo : fitTo p k (l.getD k 0) (u.k + 1) = true := by rw [fitTo, hu2, fitS, hpx, hs0, hs1]; simpa using h6
            refine skp (h := ?_)
            refine q_blk_norm (h := ?_)
            refine q_blk_norm (h := ?_)
            refine q_seq (h := ?_)
            refine rg (h := ?_)
            refine WL.y (hy := mv) (h := ?_)
            refine WL.y (hy := addI) (h := ?_)
            refine WL.y (hy := asg) (h := ?_)
            refine nl (h := ?_)
            refine rn (x := u) ⟨u.k + 1⟩ ⟨by dsimp only; omega, hgo⟩ (by dsimp only; omega) (by repeat (first | exact trivial | refine ⟨rfl, ?_⟩)) (by repeat (first | exact SubL.nil | (apply SubL.cons; (repeat (first | exact At.here | apply At.there))) | exact SubL.refl _ | apply SubL.skip))
        · skip
          have hs1 := h5
          refine sq (h := ?_)
          refine rg (h := ?_)
          refine WL.y (hy := mv) (h := ?_)
          refine WL.y (hy := mv) (h := ?_)
          apply brAnd 6 47 53 (by exact rfl)
          · intro hb7
            refine un (h := ?_)
            refine WL.y (hy := mv) (h := ?_)
            refine un (h := ?_)
            refine WL.y (hy := (by first | exact fa | exact faE)) (h := ?_)
            refine un (h := ?_)
            refine WL.y (hy := (by first | exact ld | exact ldE)) (h := ?_)
            refine un (h := ?_)
            refine WL.y (hy := quoI) (h := ?_)
            refine un (h := ?_)
            refine WL.y (hy := neq) (h := ?_)
            refine WL.y (hy := (by first | exact pkT | exact pkF)) (h := ?_)
            exact mg (by repeat (first | exact trivial | refine ⟨rfl, ?_⟩ | refine ⟨by rw [hb7]; rfl, ?_⟩)) (by repeat (first | exact SubL.nil | (apply SubL.cons; (repeat (first | exact At.here | apply At.there))) | exact SubL.refl _ | apply SubL.skip))
          · intro hb7
            repeat (first | refine un (h := ?_) | refine sk (h := ?_) | refine WL.y (hy := pkF) (h := ?_) | refine WL.y (hy := pkT) (h := ?_))
            exact mg (by repeat (first | exact trivial | refine ⟨rfl, ?_⟩ | refine ⟨by rw [hb7]; rfl, ?_⟩)) (by repeat (first | exact SubL.nil | (apply SubL.cons; (repeat (first | exact At.here | apply At.there))) | exact SubL.refl _ | apply SubL.skip))
          refine WL.y (hy := mv) (h := ?_)
          apply brAnd 10 54 64 (by exact rfl)
          · intro hb8
            refine un (h := ?_)
            refine WL.y (hy := mv) (h := ?_)
            refine un (h := ?_)
            refine WL.y (hy := (by first | exact fa | exact faE)) (h := ?_)
            refine un (h := ?_)
            refine WL.y (hy := (by first | exact ld | exact ldE)) (h := ?_)
            refine un (h := ?_)
            refine WL.y (hy := subI) (h := ?_)
            refine un (h := ?_)
            refine WL.y (hy := (by first | exact fa | exact faE)) (h := ?_)
            refine un (h := ?_)
            refine WL.y (hy := (by first | exact ld | exact ldE)) (h := ?_)
            refine un (h := ?_)
            refine WL.y (hy := quoI) (h := ?_)
            refine un (h := ?_)
            refine WL.y (hy := subI) (h := ?_)
            refine un (h := ?_)
            refine WL.y (hy := neq) (h := ?_)
            refine WL.y (hy := (by first | exact pkT | exact pkF)) (h := ?_)
            exact mg (by repeat (first | exact trivial | refine ⟨rfl, ?_⟩ | refine ⟨by rw [hb8]; rfl, ?_⟩)) (by repeat (first | exact SubL.nil | (apply SubL.cons; (repeat (first | exact At.here | apply At.there))) | exact SubL.refl _ | apply SubL.skip))
          · intro hb8
            repeat (first | refine un (h := ?_) | refine sk (h := ?_) | refine WL.y (hy := pkF) (h := ?_) | refine WL.y (hy := pkT) (h := ?_))
            exact mg (by repeat (first | exact trivial | refine ⟨rfl, ?_⟩ | refine ⟨by rw [hb8]; rfl, ?_⟩)) (by repeat (first | exact SubL.nil | (apply SubL.cons; (repeat (first | exact At.here | apply At.there))) | exact SubL.refl _ | apply SubL.skip))
          refine nl (h := ?_)
          refine q_seq (h := ?_)
          refine cd (by exact rfl) (fun h9 => ?_) (fun h9 => ?_)
          · skip
            have hbad : fitS p k (l.getD k 0) u.k = false := by rw [fitS, hpx, hs0, hs1, h9]; rfl
            have hE : fitV p l = false := by rw [fitV, hk2, hfF, fitTo_le (j := u.k + 1) (by rw [fitTo, hbad, Bool.and_false]) (by omega)]; rfl
            refine sq (h := ?_)
            refine rg (h := ?_)
            refine WL.y (hy := asg) (h := ?_)
            refine nl (h := ?_)
            refine q_seq (h := ?_)
            refine rtn (h := ?_)
            refine q_blk_ret (h := ?_)
            refine q_blk_ret (h := ?_)
            refine q_then_ret (h := ?_)
            refine q_then_ret (h := ?_)
            refine q_blk_ret (h := ?_)
            refine q_then_ret (h := ?_)
            refine q_ret (hR := ?_)
            rw [hE]
            exact fun w hS => ⟨rfl, hS.sub (by repeat (first | exact SubL.nil | (apply SubL.cons; (repeat (first | exact At.here | apply At.there))) | exact SubL.refl _ | apply SubL.skip))⟩
          · skip
            have hgo : fitTo p k (l.getD k 0) (u.k + 1) = true := by rw [fitTo, hu2, fitS, hpx, hs0, hs1, h9]; rfl
            refine skp (h := ?_)
            refine q_blk_norm (h := ?_)
            refine q_blk_norm (h := ?_)
            refine q_seq (h := ?_)
            refine rg (h := ?_)
            refine WL.y (hy := mv) (h := ?_)
            refine WL.y (hy := addI) (h := ?_)
            refine WL.y (hy := asg) (h := ?_)
            refine nl (h := ?_)
            refine rn (x := u) ⟨u.k + 1⟩ ⟨by dsimp only; omega, hgo⟩ (by dsimp only; omega) (by repeat (first | exact trivial | refine ⟨rfl, ?_⟩)) (by repeat (first | exact SubL.nil | (apply SubL.cons; (repeat (first | exact At.here | apply At.there))) | exact SubL.refl _ | apply SubL.skip))
    · skip
      have hus : p.seeds.toNat = u.k := by simp only [decide_eq_false_iff_not] at h2; omega
      have hE : fitV p l = true := by rw [fitV, hk2, hfF, hus, hu2]; rfl
      refine et (h := ?_)
      refine q_then_exit (h := ?_)
      refine q_then_exit (h := ?_)
      refine q_blk_hit (h := ?_)
      refine q_seq (h := ?_)
      refine sq (h := ?_)
      refine rg (h := ?_)
      refine WL.y (hy := asg) (h := ?_)
      refine nl (h := ?_)
      refine q_seq (h := ?_)
      refine rtn (h := ?_)
      refine q_ret (hR := ?_)
      rw [hE]
      exact fun w hS => ⟨rfl, hS.sub (by repeat (first | exact SubL.nil | (apply SubL.cons; (repeat (first | exact At.here | apply At.there))) | exact SubL.refl _ | apply SubL.skip))⟩
end Go.Proofs.Ytjkoaifjmcgpfaa
