/- Walks of gate, three: the order of the groups. -/
import Derived.Test.YtbcclgfobiholaaG2
namespace Go.Proofs.Ytbcclgfobiholaa
open Go Go.RowKit

/-! #### insertion, plain -/
def posV (lt : Int → Int → Bool) (l : List Int) (x : Int) : Nat → Nat
  | 0 => 0
  | j + 1 => match l[j]? with
    | some y => bif lt x y then posV lt l x j else j + 1
    | none => j + 1
def insV (lt : Int → Int → Bool) (l : List Int) (x : Int) : List Int := l.take (posV lt l x l.length) ++ x :: l.drop (posV lt l x l.length)
def sortTo (lt : Int → Int → Bool) (xs : List Int) : Nat → List Int
  | 0 => []
  | k + 1 => match xs[k]? with
    | some x => insV lt (sortTo lt xs k) x
    | none => sortTo lt xs k
def sortV (lt : Int → Int → Bool) (xs : List Int) : List Int := sortTo lt xs xs.length
theorem posV_le (lt : Int → Int → Bool) (l : List Int) (x : Int) : ∀ j, posV lt l x j ≤ j
  | 0 => Nat.le_refl _
  | j + 1 => by
    rw [posV]
    cases l[j]? with
    | none => exact Nat.le_refl _
    | some y =>
      show (bif lt x y then posV lt l x j else j + 1) ≤ j + 1
      cases lt x y
      · exact Nat.le_refl _
      · exact Nat.le_succ_of_le (posV_le lt l x j)
theorem insV_len (lt : Int → Int → Bool) (l : List Int) (x : Int) : (insV lt l x).length = l.length + 1 := by
  have := posV_le lt l x l.length
  simp [insV]; omega
theorem sortTo_len (lt : Int → Int → Bool) (xs : List Int) : ∀ k, k ≤ xs.length → (sortTo lt xs k).length = k
  | 0, _ => rfl
  | k + 1, hk => by
    rw [sortTo, List.getElem?_eq_getElem (by omega)]
    simp only [insV_len, sortTo_len lt xs k (by omega)]
theorem posV_step {lt : Int → Int → Bool} {l : List Int} {x y : Int} {j : Nat} (h : l[j]? = some y) : posV lt l x (j + 1) = bif lt x y then posV lt l x j else j + 1 := by rw [posV, h]
theorem insV_mem (lt : Int → Int → Bool) (l : List Int) (x y : Int) : y ∈ insV lt l x ↔ y = x ∨ y ∈ l := by
  unfold insV
  constructor
  · intro h
    rcases List.mem_append.1 h with h | h
    · exact .inr (List.mem_of_mem_take h)
    · rcases List.mem_cons.1 h with h | h
      · exact .inl h
      · exact .inr (List.mem_of_mem_drop h)
  · rintro (rfl | h)
    · exact List.mem_append.2 (.inr (List.mem_cons_self ..))
    · rw [← List.take_append_drop (posV lt l x l.length) l] at h
      rcases List.mem_append.1 h with h | h
      · exact List.mem_append.2 (.inl h)
      · exact List.mem_append.2 (.inr (List.mem_cons_of_mem _ h))
theorem sortTo_mem (lt : Int → Int → Bool) (xs : List Int) (y : Int) : ∀ k, k ≤ xs.length → (y ∈ sortTo lt xs k ↔ y ∈ xs.take k)
  | 0, _ => by simp [sortTo]
  | k + 1, hk => by
    have h : xs[k]? = some xs[k] := List.getElem?_eq_getElem (by omega)
    rw [sortTo, h, List.take_add_one, h]
    simp only [insV_mem, sortTo_mem lt xs y k (by omega), List.mem_append, Option.toList_some, List.mem_singleton]
    exact Or.comm
theorem sortV_mem (lt : Int → Int → Bool) (xs : List Int) (y : Int) : y ∈ sortV lt xs ↔ y ∈ xs := by
  rw [sortV, sortTo_mem lt xs y _ (Nat.le_refl _), List.take_length]
/-- What a row looks like while its element k goes down to its place. -/
def midV (lt : Int → Int → Bool) (xs : List Int) (k j : Nat) (x : Int) : List Int := (sortTo lt xs k).take j ++ x :: ((sortTo lt xs k).drop j ++ xs.drop (k + 1))
theorem mid_len {lt : Int → Int → Bool} {xs : List Int} {k j : Nat} {x : Int} (hk : k < xs.length) (hj : j ≤ k) : (midV lt xs k j x).length = xs.length := by
  have := sortTo_len lt xs k (by omega)
  simp [midV]; omega
theorem mid_start {lt : Int → Int → Bool} {xs : List Int} {k : Nat} {x : Int} (hx : xs[k]? = some x) : midV lt xs k k x = sortTo lt xs k ++ xs.drop k := by
  have hk : k < xs.length := (List.getElem?_eq_some_iff.1 hx).1
  have hl := sortTo_len lt xs k (by omega)
  unfold midV
  rw [List.take_of_length_le (by omega), List.drop_of_length_le (by omega), List.nil_append, List.drop_eq_getElem_cons hk]
  congr 2
  rw [List.getElem?_eq_getElem hk] at hx
  injection hx with hx; exact hx.symm
theorem mid_at {lt : Int → Int → Bool} {xs : List Int} {k j : Nat} {x : Int} (hk : k < xs.length) (hj : j ≤ k) : (midV lt xs k j x)[j]? = some x := by
  have := sortTo_len lt xs k (by omega)
  unfold midV
  have hl : ((sortTo lt xs k).take j).length = j := by rw [List.length_take]; omega
  rw [List.getElem?_append_right (by omega), hl, Nat.sub_self]; rfl
theorem mid_below {lt : Int → Int → Bool} {xs : List Int} {k j : Nat} {x y : Int} (hk : k < xs.length) (hj : j + 1 ≤ k) (hy : (sortTo lt xs k)[j]? = some y) : (midV lt xs k (j + 1) x)[j]? = some y := by
  have := sortTo_len lt xs k (by omega)
  unfold midV
  rw [List.getElem?_append_left (by rw [List.length_take]; omega), List.getElem?_take]
  simp [hy]
theorem mid_swap {lt : Int → Int → Bool} {xs : List Int} {k j : Nat} {x y : Int} (hk : k < xs.length) (hj : j + 1 ≤ k) (hy : (sortTo lt xs k)[j]? = some y) : ((midV lt xs k (j + 1) x).set (j + 1) y).set j x = midV lt xs k j x := by
  have hl := sortTo_len lt xs k (by omega)
  have hjl : j < (sortTo lt xs k).length := by omega
  unfold midV
  have ht : (sortTo lt xs k).take (j + 1) = (sortTo lt xs k).take j ++ [y] := by rw [List.take_add_one, hy]; rfl
  have hd : (sortTo lt xs k).drop j = y :: (sortTo lt xs k).drop (j + 1) := by
    rw [List.drop_eq_getElem_cons hjl]
    congr 1
    rw [List.getElem?_eq_getElem hjl] at hy
    injection hy
  have hlt : ((sortTo lt xs k).take j).length = j := by rw [List.length_take]; omega
  rw [ht, hd, List.append_assoc, List.set_append_right _ _ (by omega), hlt]
  rw [show j + 1 - j = 1 by omega]
  simp only [List.singleton_append, List.set_cons_succ, List.set_cons_zero]
  rw [List.set_append_right _ _ (by omega), hlt, Nat.sub_self]
  simp
theorem mid_end {lt : Int → Int → Bool} {xs : List Int} {k : Nat} {x : Int} (hx : xs[k]? = some x) (j : Nat) (hj : posV lt (sortTo lt xs k) x k = j) : midV lt xs k j x = sortTo lt xs (k + 1) ++ xs.drop (k + 1) := by
  have hk : k < xs.length := (List.getElem?_eq_some_iff.1 hx).1
  have hl := sortTo_len lt xs k (by omega)
  rw [sortTo, hx]
  unfold midV insV
  simp only
  rw [hl, hj]
  simp

/-! #### comparing -/
def orV : List Int → Int
  | [] => 0
  | x :: xs => bif !decide (x = 0) then x else orV xs
theorem C_cmp_Or (xs : List Int) (A : Option Addr) (n c : Nat) (w : World) (h : Rd w A 1 n (enI xs)) (hn : n ≤ 9223372036854775807) : C0 Try.prog 64 [.slice A n c] w (.int .i64 (orV xs)) := by
  have hlen : xs.length = n := by have := h.len; rwa [enI_len] at this
  refine ⟨en Try.func64 Try.ntmps64 ((St.init w).share (e := .ro A 1 n (enI xs)) h rfl rfl rfl) (h := fun F => ?_)⟩
  refine sq (h := ?_)
  refine rg (h := ?_)
  refine WL.y (hy := asg) (h := ?_)
  refine nl (h := ?_)
  refine q_seq (h := ?_)
  refine sq (h := ?_)
  refine rg (h := ?_)
  refine WL.y (hy := asg) (h := ?_)
  refine nl (h := ?_)
  refine q_seq (h := ?_)
  refine sq (h := ?_)
  refine sq (h := ?_)
  refine rg (h := ?_)
  refine WL.y (hy := mv) (h := ?_)
  refine WL.y (hy := lenS) (h := ?_)
  refine WL.y (hy := mv) (h := ?_)
  refine nl (h := ?_)
  refine q_seq (h := ?_)
  refine bk (h := ?_)
  refine lp (X := Nat) (I := fun k => k ≤ n ∧ orV (xs.drop k) = orV xs) (le := fun k => [(3, .int .i64 0), (6, .slice A n c), (7, .int .i64 n), (8, .int .i64 k)]) (Le := fun _ => [.ro A 1 n (enI xs)]) (μ := fun k => n - k) 0 ⟨Nat.zero_le _, rfl⟩ (by repeat (first | exact trivial | refine ⟨rfl, ?_⟩)) (by repeat (first | exact SubL.nil | (apply SubL.cons; (repeat (first | exact At.here | apply At.there))) | exact SubL.refl _ | apply SubL.skip)) (fun k hk => ?_)
  obtain ⟨hk, hko⟩ := hk
  refine sq (h := ?_)
  refine rg (h := ?_)
  refine WL.y (hy := lss) (h := ?_)
  refine nl (h := ?_)
  refine q_seq (h := ?_)
  refine sq (h := ?_)
  refine cd (by exact rfl) (fun h0 => ?_) (fun h0 => ?_)
  · skip
    have hkn : k < n := by simp only [decide_eq_true_eq] at h0; omega
    obtain ⟨x, hx⟩ : ∃ x, xs[k]? = some x := ⟨_, List.getElem?_eq_getElem (by omega)⟩
    have hxe := enI_at hx
    have hdr : xs.drop k = x :: xs.drop (k + 1) := by
      rw [List.drop_eq_getElem_cons (by omega)]
      congr 1
      rw [List.getElem?_eq_getElem (by omega)] at hx
      injection hx
    refine skp (h := ?_)
    refine q_seq (h := ?_)
    refine sq (h := ?_)
    refine bk (h := ?_)
    refine sq (h := ?_)
    refine rg (h := ?_)
    refine WL.y (hy := ix (A := A) (m := n)) (h := ?_)
    refine WL.y (hy := ldE (A := A) (hk := hxe)) (h := ?_)
    refine WL.y (hy := asg) (h := ?_)
    refine nl (h := ?_)
    refine q_seq (h := ?_)
    refine sq (h := ?_)
    refine rg (h := ?_)
    refine WL.y (hy := mv) (h := ?_)
    refine WL.y (hy := mv) (h := ?_)
    refine WL.y (hy := neq) (h := ?_)
    refine nl (h := ?_)
    refine q_seq (h := ?_)
    refine cd (by exact rfl) (fun h1 => ?_) (fun h1 => ?_)
    · skip
      have hE : orV xs = x := by rw [← hko, hdr, orV, h1]; rfl
      refine sq (h := ?_)
      refine rg (h := ?_)
      refine WL.y (hy := mv) (h := ?_)
      refine WL.y (hy := asg) (h := ?_)
      refine nl (h := ?_)
      refine q_seq (h := ?_)
      refine rtn (h := ?_)
      refine q_blk_ret (h := ?_)
      refine q_then_ret (h := ?_)
      refine q_then_ret (h := ?_)
      refine q_blk_ret (h := ?_)
      refine q_then_ret (h := ?_)
      refine q_ret (hR := ?_)
      rw [hE]
      exact fun w hS => ⟨rfl, hS.sub (by repeat (first | exact SubL.nil | (apply SubL.cons; (repeat (first | exact At.here | apply At.there))) | exact SubL.refl _ | apply SubL.skip))⟩
    · skip
      have hE : orV (xs.drop (k + 1)) = orV xs := by
        rw [← hko, hdr, orV]
        have h' : (!decide (x = 0)) = false := h1
        rw [h']; rfl
      refine skp (h := ?_)
      refine q_blk_norm (h := ?_)
      refine q_seq (h := ?_)
      refine rg (h := ?_)
      refine WL.y (hy := addI) (h := ?_)
      refine WL.y (hy := mv) (h := ?_)
      refine nl (h := ?_)
      refine rn (x := k) (k + 1) ⟨by omega, hE⟩ (by omega) (by repeat (first | exact trivial | refine ⟨rfl, ?_⟩)) (by repeat (first | exact SubL.nil | (apply SubL.cons; (repeat (first | exact At.here | apply At.there))) | exact SubL.refl _ | apply SubL.skip))
  · skip
    have hkn : k = n := by simp only [decide_eq_false_iff_not] at h0; omega
    have hE : orV xs = 0 := by rw [← hko, List.drop_of_length_le (by omega)]; rfl
    refine et (h := ?_)
    refine q_then_exit (h := ?_)
    refine q_then_exit (h := ?_)
    refine q_blk_hit (h := ?_)
    refine q_seq (h := ?_)
    refine sq (h := ?_)
    refine rg (h := ?_)
    refine WL.y (hy := mv) (h := ?_)
    refine WL.y (hy := asg) (h := ?_)
    refine nl (h := ?_)
    refine q_seq (h := ?_)
    refine rtn (h := ?_)
    refine q_ret (hR := ?_)
    rw [hE]
    exact fun w hS => ⟨rfl, hS.sub (by repeat (first | exact SubL.nil | (apply SubL.cons; (repeat (first | exact At.here | apply At.there))) | exact SubL.refl _ | apply SubL.skip))⟩
def cmpQ (gs : List Pt) (a b : Int) : Int := match gs[a.toNat]?, gs[b.toNat]? with
  | some g, some h => orV [g.at_ - h.at_, g.id - h.id]
  | _, _ => 0
def ltQ (gs : List Pt) (a b : Int) : Bool := decide (cmpQ gs a b < 0)
theorem pt_rng {g : Pt} (h : ptOk g = true) : (0 ≤ g.id ∧ g.id ≤ 999) ∧ (0 ≤ g.at_ ∧ g.at_ ≤ 1440) ∧ (1 ≤ g.size ∧ g.size ≤ 20) ∧ (g.quits = -1 ∨ g.at_ ≤ g.quits ∧ g.quits ≤ 1440) := by
  simp only [ptOk, isT, Bool.and_eq_true, Bool.or_eq_true, win_iff, decide_eq_true_eq] at h
  omega
abbrev ordL (q : Qu) (a : QA) (b : Nat) : List Ent := [.blk b 27 (q.cells a), .ro a.gA 4 q.gs.length (encPt q.gs)]
set_option maxHeartbeats 1000000 in
theorem T_open1 (q : Qu) (a : QA) (b : Nat) (hq : q.Ok) (x y : Int) (hx : 0 ≤ x ∧ x < q.gs.length) (hy : 0 ≤ y ∧ y < q.gs.length) :
    Tr Try.prog 63 [.int .i64 x, .int .i64 y, .pointer (some ⟨b, 0, none⟩)] (ordL q a b) (fun _ : Unit => True) (fun _ => .int .i64 (cmpQ q.gs x y)) (fun _ => ordL q a b) := by
  refine ⟨fun w0 w R hst => ?_⟩
  obtain ⟨g, hg⟩ : ∃ g, q.gs[x.toNat]? = some g := ⟨_, List.getElem?_eq_getElem (by omega)⟩
  obtain ⟨h, hh⟩ : ∃ h, q.gs[y.toNat]? = some h := ⟨_, List.getElem?_eq_getElem (by omega)⟩
  have hge := encPt_at hg
  have hhe := encPt_at hh
  have hgo := pt_rng (hq.pt g (List.mem_of_getElem? hg))
  have hho := pt_rng (hq.pt h (List.mem_of_getElem? hh))
  have hE : cmpQ q.gs x y = orV [g.at_ - h.at_, g.id - h.id] := by rw [cmpQ, hg, hh]
  refine en Try.func63 Try.ntmps63 hst (h := fun F => ?_)
  refine sq (h := ?_)
  refine rg (h := ?_)
  refine WL.y (hy := asg) (h := ?_)
  refine nl (h := ?_)
  refine q_seq (h := ?_)
  refine ct (X := Nat × Nat) (fun _ => True) (fun x => [(6, .pointer (some ⟨x.1, 0, none⟩)), (7, .pointer (some ⟨x.2, 0, none⟩))]) (fun x => .blk x.1 52 g.enc :: .blk x.2 52 h.enc :: .blk b 27 (q.cells a) :: .ro a.gA 4 q.gs.length (encPt q.gs) :: R) (h1 := ?_) (h2 := ?_)
  · skip
    refine rgD (by kernel_rfl) [(1000000, .blk b 27 (q.cells a)), (1000000, .ro a.gA 4 q.gs.length (encPt q.gs))] (by repeat (first | exact HS.nil | (apply HS.keep; (repeat (first | exact At.here | apply At.there))) | (apply HS.ro; (repeat (first | exact Rds.ro | exact Rds.own | apply Rds.there))))) (h := ?_)
    refine tk 0 (hy := (by first | exact fa | exact faE)) (h := ?_)
    refine tk 1 (hy := (by first | exact ld | exact ldE)) (h := ?_)
    refine tk 2 (hy := mv) (h := ?_)
    refine tk 3 (hy := ix (A := a.gA) (m := q.gs.length)) (h := ?_)
    refine tk 4 (hy := ldEA (A := a.gA) (hk := hge)) (h := ?_)
    refine tk 5 (hy := (by first | exact fa | exact faE)) (h := ?_)
    refine tk 6 (hy := (by first | exact ld | exact ldE)) (h := ?_)
    refine tk 7 (hy := mv) (h := ?_)
    refine tk 8 (hy := ix (A := a.gA) (m := q.gs.length)) (h := ?_)
    refine tk 9 (hy := ldEA (A := a.gA) (hk := hhe)) (h := ?_)
    refine two 10 11 (h1 := ?_) (h2 := ?_)
    · skip
      refine al (h := fun b0 => ?_)
      refine nx (h := ?_)
      refine one 11 (h := ?_)
      refine al (h := fun b1 => ?_)
      refine nx (h := ?_)
      refine one 12 (h := ?_)
      first | refine stA (h := ?_) | refine stEA (h := ?_)
      refine nx (h := ?_)
      refine one 13 (h := ?_)
      first | refine stA (h := ?_) | refine stEA (h := ?_)
      refine nx (h := ?_)
      refine dn (h := ?_)
      exact ctn (_, _) trivial (by repeat (first | exact trivial | refine ⟨rfl, ?_⟩)) (by repeat (first | exact SubL.nil | (apply SubL.cons; (repeat (first | exact At.here | apply At.there))) | exact SubL.refl _ | apply SubL.skip))
    · skip
      refine al (h := fun b2 => ?_)
      refine nx (h := ?_)
      refine one 10 (h := ?_)
      refine al (h := fun b3 => ?_)
      refine nx (h := ?_)
      refine one 12 (h := ?_)
      first | refine stA (h := ?_) | refine stEA (h := ?_)
      refine nx (h := ?_)
      refine one 13 (h := ?_)
      first | refine stA (h := ?_) | refine stEA (h := ?_)
      refine nx (h := ?_)
      refine dn (h := ?_)
      exact ctn (_, _) trivial (by repeat (first | exact trivial | refine ⟨rfl, ?_⟩)) (by repeat (first | exact SubL.nil | (apply SubL.cons; (repeat (first | exact At.here | apply At.there))) | exact SubL.refl _ | apply SubL.skip))
  rintro ⟨u1, u2⟩ -
  dsimp only
  refine sq (h := ?_)
  refine rg (h := ?_)
  refine WL.y (hy := (by first | exact fa | exact faE)) (h := ?_)
  refine WL.y (hy := (by first | exact ld | exact ldE)) (h := ?_)
  refine WL.y (hy := (by first | exact fa | exact faE)) (h := ?_)
  refine WL.y (hy := (by first | exact ld | exact ldE)) (h := ?_)
  refine WL.y (hy := subI) (h := ?_)
  refine WL.y (hy := (by first | exact fa | exact faE)) (h := ?_)
  refine WL.y (hy := (by first | exact ld | exact ldE)) (h := ?_)
  refine WL.y (hy := (by first | exact fa | exact faE)) (h := ?_)
  refine WL.y (hy := (by first | exact ld | exact ldE)) (h := ?_)
  refine WL.y (hy := subI) (h := ?_)
  refine bs (h := fun u3 => ?_)
  refine cl0 (hc := fun w hS => C_cmp_Or [g.at_ - h.at_, g.id - h.id] (some ⟨u3, 0, none⟩) 2 2 w (hS.get (by repeat (first | exact Rds.own | apply Rds.there))) (by omega)) (h := ?_)
  refine WL.y (hy := asg) (h := ?_)
  refine nl (h := ?_)
  refine q_seq (h := ?_)
  refine rtn (h := ?_)
  refine q_ret (hR := ?_)
  rw [hE]
  exact fun w hS => ⟨(), trivial, rfl, hS.sub (by repeat (first | exact SubL.nil | (apply SubL.cons; (repeat (first | exact At.here | apply At.there))) | exact SubL.refl _ | apply SubL.skip))⟩

/-! #### sorting -/
structure SZ where
  (k : Nat)
set_option maxHeartbeats 1000000 in
theorem T_insertion (q : Qu) (a : QA) (b : Nat) (hq : q.Ok) (xs : List Int) (A : Option Addr) (n c : Nat) (hlen : xs.length = n) (hn : n ≤ 40) (hr : ∀ x ∈ xs, 0 ≤ x ∧ x < q.gs.length) :
    Tr Try.prog 69 [.slice A n c, .int .i64 0, .int .i64 n, .func (.func 63) #[] #[.pointer (some ⟨b, 0, none⟩)]] (.own A c 3 1 n (enI xs) :: ordL q a b) (fun _ : Unit => True) (fun _ => .tuple #[]) (fun _ => .own A c 3 1 n (enI (sortV (ltQ q.gs) xs)) :: ordL q a b) := by
  refine ⟨fun w0 w R hst => ?_⟩
  have h1 : sortTo (ltQ q.gs) xs 1 ++ xs.drop 1 = xs := by
    cases xs with
    | nil => rfl
    | cons x t => simp [sortTo, insV, posV]
  refine en Try.func69 Try.ntmps69 hst (h := fun F => ?_)
  refine sq (h := ?_)
  refine rg (h := ?_)
  refine WL.y (hy := mv) (h := ?_)
  refine WL.y (hy := addI) (h := ?_)
  refine WL.y (hy := asg) (h := ?_)
  refine nl (h := ?_)
  refine q_seq (h := ?_)
  refine bk (h := ?_)
  refine lp (X := Nat) (I := fun k => 1 ≤ k ∧ (k ≤ n ∨ k = 1)) (le := fun k => [(0, .slice A n c), (1, .int .i64 0), (2, .int .i64 n), (3, .func (.func 63) #[] #[.pointer (some ⟨b, 0, none⟩)]), (8, .int .i64 k)]) (Le := fun k => .own A c 3 1 n (enI (sortTo (ltQ q.gs) xs k ++ xs.drop k)) :: (ordL q a b ++ R)) (μ := fun k => n + 1 - k) 1 ⟨Nat.le_refl _, .inr rfl⟩ (by repeat (first | exact trivial | refine ⟨rfl, ?_⟩)) (by rw [h1]; exact SubL.refl _) (fun k hk => ?_)
  obtain ⟨hk1', hkn'⟩ := hk
  refine sq (h := ?_)
  refine sq (h := ?_)
  refine rg (h := ?_)
  refine WL.y (hy := mv) (h := ?_)
  refine WL.y (hy := mv) (h := ?_)
  refine WL.y (hy := lss) (h := ?_)
  refine nl (h := ?_)
  refine q_seq (h := ?_)
  refine cd (by exact rfl) (fun h0 => ?_) (fun h0 => ?_)
  · skip
    have hkn : k < n := by simp only [decide_eq_true_eq] at h0; omega
    obtain ⟨x, hx⟩ : ∃ x, xs[k]? = some x := ⟨_, List.getElem?_eq_getElem (by omega)⟩
    have hxr := hr x (List.mem_of_getElem? hx)
    have hsl := sortTo_len (ltQ q.gs) xs k (by omega)
    rw [← mid_start hx]
    refine skp (h := ?_)
    refine q_seq (h := ?_)
    refine sq (h := ?_)
    refine bk (h := ?_)
    refine sq (h := ?_)
    refine rg (h := ?_)
    refine WL.y (hy := mv) (h := ?_)
    refine WL.y (hy := asg) (h := ?_)
    refine nl (h := ?_)
    refine q_seq (h := ?_)
    refine bk (h := ?_)
    refine lp (X := Nat) (I := fun j => j ≤ k ∧ posV (ltQ q.gs) (sortTo (ltQ q.gs) xs k) x k = posV (ltQ q.gs) (sortTo (ltQ q.gs) xs k) x j) (le := fun j => [(0, .slice A n c), (1, .int .i64 0), (2, .int .i64 n), (3, .func (.func 63) #[] #[.pointer (some ⟨b, 0, none⟩)]), (8, .int .i64 k), (9, .int .i64 j)]) (Le := fun j => .own A c 3 1 n (enI (midV (ltQ q.gs) xs k j x)) :: (ordL q a b ++ R)) (μ := fun j => j) k ⟨Nat.le_refl _, rfl⟩ (by repeat (first | exact trivial | refine ⟨rfl, ?_⟩)) (by repeat (first | exact SubL.nil | (apply SubL.cons; (repeat (first | exact At.here | apply At.there))) | exact SubL.refl _ | apply SubL.skip)) (fun j hj => ?_)
    obtain ⟨hjk, hjp⟩ := hj
    refine sq (h := ?_)
    refine sq (h := ?_)
    refine rgD (by kernel_rfl) [(1000000, .own A c 3 1 n (enI (midV (ltQ q.gs) xs k j x)))] (by repeat (first | exact HS.nil | (apply HS.keep; (repeat (first | exact At.here | apply At.there))) | (apply HS.ro; (repeat (first | exact Rds.ro | exact Rds.own | apply Rds.there))))) (h := ?_)
    refine tk 0 (hy := mv) (h := ?_)
    refine tk 1 (hy := mv) (h := ?_)
    refine tk 2 (hy := gtr) (h := ?_)
    refine tk 3 (hy := mv) (h := ?_)
    refine brH (g := 21) (by exact rfl) (fun hb1 => ?_) (fun hb1 => ?_)
    · skip
      obtain ⟨i, hi⟩ : ∃ i, j = i + 1 := ⟨j - 1, by have := of_decide_eq_true hb1; omega⟩
      subst hi
      obtain ⟨y, hy⟩ : ∃ y, (sortTo (ltQ q.gs) xs k)[i]? = some y := ⟨_, List.getElem?_eq_getElem (by omega)⟩
      have hyr := hr y (List.mem_of_mem_take ((sortTo_mem (ltQ q.gs) xs y k (by omega)).1 (List.mem_of_getElem? hy)))
      have hbe := mid_below (lt := ltQ q.gs) (xs := xs) (k := k) (x := x) (by omega) (by omega) hy
      have hae := mid_at (lt := ltQ q.gs) (xs := xs) (k := k) (j := i + 1) (x := x) (by omega) (by omega)
      have hk0 : (enI (midV (ltQ q.gs) xs k (i + 1) x))[(((i + 1 : Nat) : Int) - 1).toNat]? = some [.int .i64 y] := by rw [show (((i + 1 : Nat) : Int) - 1).toNat = i by omega]; exact enI_at hbe
      have hk1 : (enI (midV (ltQ q.gs) xs k (i + 1) x))[(((i + 1 : Nat) : Int)).toNat]? = some [.int .i64 x] := enI_at hae
      refine tk 4 (hy := mv) (h := ?_)
      refine tk 5 (hy := mv) (h := ?_)
      refine tk 6 (hy := mv) (h := ?_)
      refine tk 7 (hy := ix (A := A) (m := n)) (h := ?_)
      refine tk 8 (hy := ldE (A := A) (hk := hk1)) (h := ?_)
      refine tk 9 (hy := mv) (h := ?_)
      refine tk 10 (hy := mv) (h := ?_)
      refine tk 11 (hy := subI) (h := ?_)
      refine tk 12 (hy := ix (A := A) (m := n)) (h := ?_)
      refine tk 13 (hy := ldE (A := A) (hk := hk0)) (h := ?_)
      refine one 14 (h := ?_)
      refine un (h := ?_)
      refine clfT inferInstance (fi := []) (cap := [.pointer (some ⟨b, 0, none⟩)]) (by exact rfl) (by repeat (first | exact Evs.nil | (apply Evs.cons; exact rfl))) (T_open1 q a b hq x y hxr hyr) rfl (by repeat (first | exact Spl.nil | (apply Spl.cons; (repeat (first | exact At.here | apply At.there))))) (h := fun _ _ => ?_)
      refine nx (h := ?_)
      refine tk 15 (hy := lss) (h := ?_)
      refine tk 16 (hy := (by first | exact pkT | exact pkF)) (h := ?_)
      refine dn (h := ?_)
      refine q_seq (h := ?_)
      refine cd (by exact rfl) (fun h2 => ?_) (fun h2 => ?_)
      · skip
        have hlt : ltQ q.gs x y = true := h2
        have hp2 : posV (ltQ q.gs) (sortTo (ltQ q.gs) xs k) x k = posV (ltQ q.gs) (sortTo (ltQ q.gs) xs k) x i := by rw [hjp, posV_step hy, hlt]; rfl
        have hi1 : (((i + 1 : Nat) : Int) - 1).toNat = i := by omega
        have hk2 : ((enI (midV (ltQ q.gs) xs k (i + 1) x)).set (((i + 1 : Nat) : Int)).toNat ([Value.int .i64 x].set 0 (.int .i64 y)))[(((i + 1 : Nat) : Int) - 1).toNat]? = some [.int .i64 y] := by
          rw [hi1, List.getElem?_set_ne (by show i + 1 ≠ i; omega)]
          exact enI_at hbe
        have hsw : ((enI (midV (ltQ q.gs) xs k (i + 1) x)).set (((i + 1 : Nat) : Int)).toNat ([Value.int .i64 x].set 0 (.int .i64 y))).set (((i + 1 : Nat) : Int) - 1).toNat ([Value.int .i64 y].set 0 (.int .i64 x)) = enI (midV (ltQ q.gs) xs k i x) := by
          rw [hi1]
          show ((enI _).set (i + 1) [.int .i64 y]).set i [.int .i64 x] = _
          rw [enI_set, enI_set, mid_swap (by omega) (by omega) hy]
        refine skp (h := ?_)
        refine q_seq (h := ?_)
        refine sq (h := ?_)
        refine bk (h := ?_)
        refine WC.some_ (A := A) (by repeat (first | exact At.here | apply At.there)) (by omega) (fun hAs => ?_)
        refine rgD (by kernel_rfl) [(15, .own A c 3 1 n (enI (midV (ltQ q.gs) xs k (i + 1) x)))] (by repeat (first | exact HS.nil | (apply HS.keep; (repeat (first | exact At.here | apply At.there))) | (apply HS.ro; (repeat (first | exact Rds.ro | exact Rds.own | apply Rds.there))))) (h := ?_)
        refine tk 0 (hy := mv) (h := ?_)
        refine tk 1 (hy := mv) (h := ?_)
        refine tk 2 (hy := mv) (h := ?_)
        refine tk 3 (hy := mv) (h := ?_)
        refine tk 4 (hy := subI) (h := ?_)
        refine tk 5 (hy := mv) (h := ?_)
        refine tk 6 (hy := mv) (h := ?_)
        refine tk 7 (hy := subI) (h := ?_)
        refine tk 8 (hy := ix (A := A) (m := n)) (h := ?_)
        refine tk 9 (hy := ldE (A := A) (hk := hk0)) (h := ?_)
        refine tk 10 (hy := mv) (h := ?_)
        refine tk 11 (hy := mv) (h := ?_)
        refine tk 12 (hy := ixS (A := A) (m := n) (hs := hAs)) (h := ?_)
        refine tk 13 (hy := ldE (A := A) (hk := hk1)) (h := ?_)
        refine tk 14 (hy := ix (A := A) (m := n)) (h := ?_)
        refine one 15 (h := ?_)
        refine stE (A := A) (hk := hk1) (h := ?_)
        refine nx (h := ?_)
        refine one 16 (h := ?_)
        refine WL.y (hy := ix (A := A) (m := n)) (h := ?_)
        refine nx (h := ?_)
        refine one 17 (h := ?_)
        refine stE (A := A) (hk := hk2) (h := ?_)
        refine nx (h := ?_)
        refine dn (h := ?_)
        refine q_blk_norm (h := ?_)
        refine q_seq (h := ?_)
        refine rg (h := ?_)
        refine WL.y (hy := mv) (h := ?_)
        refine WL.y (hy := subI) (h := ?_)
        refine WL.y (hy := asg) (h := ?_)
        refine nl (h := ?_)
        rw [hsw]
        refine rn (x := i + 1) i ⟨by omega, hp2⟩ (by omega) (by repeat (first | exact trivial | refine ⟨rfl, ?_⟩ | refine ⟨by show some (Value.int .i64 (((i + 1 : Nat) : Int) - 1)) = some (Value.int .i64 (i : Int)); congr 2; omega, ?_⟩)) (by repeat (first | exact SubL.nil | (apply SubL.cons; (repeat (first | exact At.here | apply At.there))) | exact SubL.refl _ | apply SubL.skip))
      · skip
        first
          | (have hlt : ltQ q.gs x y = false := ‹_›
             have hex : posV (ltQ q.gs) (sortTo (ltQ q.gs) xs k) x k = i + 1 := by rw [hjp, posV_step hy, hlt]; rfl)
          | skip
        refine et (h := ?_)
        refine q_then_exit (h := ?_)
        refine q_then_exit (h := ?_)
        refine q_blk_hit (h := ?_)
        refine q_blk_norm (h := ?_)
        refine q_seq (h := ?_)
        refine rg (h := ?_)
        refine WL.y (hy := mv) (h := ?_)
        refine WL.y (hy := addI) (h := ?_)
        refine WL.y (hy := asg) (h := ?_)
        refine nl (h := ?_)
        rw [mid_end hx _ hex]
        refine rn (x := k) (k + 1) ⟨by omega, by omega⟩ (by omega) (by repeat (first | exact trivial | refine ⟨rfl, ?_⟩)) (by repeat (first | exact SubL.nil | (apply SubL.cons; (repeat (first | exact At.here | apply At.there))) | exact SubL.refl _ | apply SubL.skip))
    · skip
      obtain rfl : j = 0 := by have := of_decide_eq_false hb1; omega
      have hex : posV (ltQ q.gs) (sortTo (ltQ q.gs) xs k) x k = 0 := hjp
      refine tkS 4 (h := ?_)
      refine tkS 5 (h := ?_)
      refine tkS 6 (h := ?_)
      refine tkS 7 (h := ?_)
      refine tkS 8 (h := ?_)
      refine tkS 9 (h := ?_)
      refine tkS 10 (h := ?_)
      refine tkS 11 (h := ?_)
      refine tkS 12 (h := ?_)
      refine tkS 13 (h := ?_)
      refine tkS 14 (h := ?_)
      refine tkS 15 (h := ?_)
      refine tk 16 (hy := (by first | exact pkT | exact pkF)) (h := ?_)
      refine dn (h := ?_)
      refine q_seq (h := ?_)
      refine cdF (h := ?_)
      first
        | (have hlt : ltQ q.gs x y = false := ‹_›
           have hex : posV (ltQ q.gs) (sortTo (ltQ q.gs) xs k) x k = i + 1 := by rw [hjp, posV_step hy, hlt]; rfl)
        | skip
      refine et (h := ?_)
      refine q_then_exit (h := ?_)
      refine q_then_exit (h := ?_)
      refine q_blk_hit (h := ?_)
      refine q_blk_norm (h := ?_)
      refine q_seq (h := ?_)
      refine rg (h := ?_)
      refine WL.y (hy := mv) (h := ?_)
      refine WL.y (hy := addI) (h := ?_)
      refine WL.y (hy := asg) (h := ?_)
      refine nl (h := ?_)
      rw [mid_end hx _ hex]
      refine rn (x := k) (k + 1) ⟨by omega, by omega⟩ (by omega) (by repeat (first | exact trivial | refine ⟨rfl, ?_⟩)) (by repeat (first | exact SubL.nil | (apply SubL.cons; (repeat (first | exact At.here | apply At.there))) | exact SubL.refl _ | apply SubL.skip))
  · skip
    have hkn : sortTo (ltQ q.gs) xs k ++ xs.drop k = sortV (ltQ q.gs) xs := by
      have hkn : n ≤ k := by simp only [decide_eq_false_iff_not] at h0; omega
      rcases (by omega : k = n ∨ (n = 0 ∧ k = 1)) with rfl | ⟨hn0, rfl⟩
      · rw [← hlen, List.drop_length, List.append_nil]; rfl
      · subst hn0
        rw [List.eq_nil_of_length_eq_zero hlen]; rfl
    rw [hkn]
    refine et (h := ?_)
    refine q_then_exit (h := ?_)
    refine q_then_exit (h := ?_)
    refine q_blk_hit (h := ?_)
    refine q_end (hR := ?_)
    exact fun w hS => ⟨(), trivial, rfl, hS.sub (by repeat (first | exact SubL.nil | (apply SubL.cons; (repeat (first | exact At.here | apply At.there))) | exact SubL.refl _ | apply SubL.skip))⟩
end Go.Proofs.Ytbcclgfobiholaa
