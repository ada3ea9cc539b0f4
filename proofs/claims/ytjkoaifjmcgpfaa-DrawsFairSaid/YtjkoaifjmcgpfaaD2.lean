/- Walks of draws, two: persons, sheets, what obeys. -/
import Derived.Test.YtjkoaifjmcgpfaaD1
namespace Go.Proofs.Ytjkoaifjmcgpfaa
open Go Go.RowKit

def idxF (p : Nat → Bool) : Nat → Int
  | 0 => -1
  | n + 1 => bif decide (0 ≤ idxF p n) then idxF p n else bif p n then (n : Int) else -1
theorem idxF_spec (p : Nat → Bool) : ∀ n, Fst p n (idxF p n)
  | 0 => .inr ⟨rfl, fun i hi => by omega⟩
  | n + 1 => by
    rcases idxF_spec p n with ⟨k, hk, he, hp, hb⟩ | ⟨he, hb⟩
    · left
      refine ⟨k, by omega, ?_, hp, hb⟩
      rw [idxF, he, decide_eq_true (by omega)]; rfl
    · cases hp : p n
      · right
        refine ⟨by rw [idxF, he, hp]; rfl, fun i hi => ?_⟩
        rcases Nat.lt_succ_iff_lt_or_eq.1 hi with h | rfl
        · exact hb i h
        · exact hp
      · left
        exact ⟨n, by omega, by rw [idxF, he, hp]; rfl, hp, hb⟩
theorem Fst.uniq {p : Nat → Bool} {n : Nat} {j j' : Int} (h : Fst p n j) (h' : Fst p n j') : j = j' := by
  rcases h with ⟨k, hk, rfl, hp, hb⟩ | ⟨rfl, hb⟩
  · rcases h' with ⟨k', hk', rfl, hp', hb'⟩ | ⟨rfl, hb'⟩
    · rcases Nat.lt_trichotomy k k' with h | h | h
      · rw [hb' k h] at hp; cases hp
      · rw [h]
      · rw [hb k' h] at hp'; cases hp'
    · rw [hb' k hk] at hp; cases hp
  · rcases h' with ⟨k', hk', rfl, hp', hb'⟩ | ⟨rfl, hb'⟩
    · rw [hb k' hk'] at hp'; cases hp'
    · rfl

def perI (p : Pl) (n : Int) : Int := idxF (pAt p.ps fun x => decide (x.player = n)) p.ps.length
theorem per_rng (p : Pl) (n : Int) : -1 ≤ perI p n ∧ perI p n < p.ps.length := by
  rcases idxF_spec (pAt p.ps fun x => decide (x.player = n)) p.ps.length with ⟨k, hk, he, _⟩ | ⟨he, _⟩
  · unfold perI; omega
  · unfold perI; omega
theorem T_person1 (n : Int) (b : Nat) (y : Ps) : Tr Try.prog 89 [y.val, .pointer (some ⟨b, 0, none⟩)] [.blk b 3 [.int .i64 n]] (fun _ : Unit => True) (fun _ => .bool (decide (y.player = n))) (fun _ => [.blk b 3 [.int .i64 n]]) := by
  refine ⟨fun w0 w R hst => ?_⟩
  refine en Try.func89 Try.ntmps89 hst (h := fun F => ?_)
  refine sq (h := ?_)
  refine rg (h := ?_)
  refine bxA (h := fun b0 => ?_)
  refine WL.y (hy := asg) (h := ?_)
  refine nl (h := ?_)
  refine q_seq (h := ?_)
  refine sq (h := ?_)
  refine rg (h := ?_)
  refine WL.y (hy := (by first | exact fa | exact faE)) (h := ?_)
  refine WL.y (hy := (by first | exact ld | exact ldE)) (h := ?_)
  refine WL.y (hy := (by first | exact ld | exact ldE)) (h := ?_)
  refine WL.y (hy := eql) (h := ?_)
  refine WL.y (hy := asg) (h := ?_)
  refine nl (h := ?_)
  refine q_seq (h := ?_)
  refine rtn (h := ?_)
  refine q_ret (hR := ?_)
  exact fun w hS => ⟨(), trivial, rfl, hS.sub (by repeat (first | exact SubL.nil | (apply SubL.cons; (repeat (first | exact At.here | apply At.there))) | exact SubL.refl _ | apply SubL.skip))⟩
theorem C_person (p : Pl) (a : PA) (n : Int) (w : World) (h : PRd w p a) : C0 Try.prog 59 [p.val a, .int .i64 n] w (.int .i64 (perI p n)) := by
  obtain ⟨hp, hl, hpn, hln, hpc⟩ := h
  refine ⟨en Try.func59 Try.ntmps59 (((St.init w).share (e := .ro a.pA 3 p.ps.length (encPs p.ps)) hp rfl rfl rfl).share (e := .ro a.lA 1 p.lots.length (enI p.lots)) hl rfl rfl rfl) (h := fun F => ?_)⟩
  refine sq (h := ?_)
  refine rg (h := ?_)
  refine bxA (h := fun b0 => ?_)
  refine bx (h := fun b1 => ?_)
  refine WL.y (hy := asg) (h := ?_)
  refine nl (h := ?_)
  refine q_seq (h := ?_)
  refine sq (h := ?_)
  refine rg (h := ?_)
  refine WL.y (hy := (by first | exact fa | exact faE)) (h := ?_)
  refine WL.y (hy := (by first | exact ld | exact ldE)) (h := ?_)
  refine WL.y (hy := mkf) (h := ?_)
  refine clT (hc := C_IndexPs (A := a.pA) (c := a.pc) (es := encPs p.ps) (g := 89) inferInstance [] [.pointer (some ⟨b1, 0, none⟩)] [.blk b1 3 [.int .i64 n]] (pAt p.ps fun x => decide (x.player = n)) hpn (fun k cs hk => by
    obtain ⟨y, hyk, rfl⟩ := enc_at hk
    rw [pAt_eq hyk]
    exact Tr.frame1 (T_person1 n b1 y))) (hs := (by repeat (first | exact Spl.nil | (apply Spl.cons; (repeat (first | exact At.here | apply At.there)))))) (h := fun x0 hx0 => ?_)
  obtain rfl : x0 = perI p n := hx0.uniq (idxF_spec _ _)
  refine WL.y (hy := asg) (h := ?_)
  refine nl (h := ?_)
  refine q_seq (h := ?_)
  refine rtn (h := ?_)
  refine q_ret (hR := ?_)
  exact fun w hS => ⟨rfl, hS.sub (by repeat (first | exact SubL.nil | (apply SubL.cons; (repeat (first | exact At.here | apply At.there))) | exact SubL.refl _ | apply SubL.skip))⟩
theorem C_CloneInts (A : Option Addr) (n c : Nat) (es : List (List Value)) (w : World) (h : Rd w A 1 n es) (hn : n ≤ 100000000) :
    CR Try.prog 71 [.slice A n c] w (fun _ : Option Addr × Nat => True) (fun p => .slice p.1 n p.2) (fun p => [.own p.1 p.2 3 1 n es]) := by
  refine ⟨en Try.func71 Try.ntmps71 ((St.init w).share (e := .ro A 1 n es) h rfl rfl rfl) (h := fun F => ?_)⟩
  refine sq (h := ?_)
  refine rg (h := ?_)
  refine WL.y (hy := asg) (h := ?_)
  refine WL.nilOwn 3 1 (h := ?_)
  refine nl (h := ?_)
  refine q_seq (h := ?_)
  refine sq (h := ?_)
  refine sq (h := ?_)
  refine rg (h := ?_)
  refine WL.y (hy := mv) (h := ?_)
  refine WL.y (hy := eqlN) (h := ?_)
  refine nl (h := ?_)
  refine q_seq (h := ?_)
  refine cd (by exact rfl) (fun h0 => ?_) (fun h0 => ?_)
  · skip
    refine sq (h := ?_)
    refine rg (h := ?_)
    refine WL.y (hy := asg) (h := ?_)
    refine nl (h := ?_)
    refine q_seq (h := ?_)
    refine rtn (h := ?_)
    refine q_then_ret (h := ?_)
    refine q_ret (hR := ?_)
    have hn0 : n = 0 := by
      rcases Nat.eq_zero_or_pos n with e | e
      · exact e
      · obtain ⟨ad, rfl⟩ := h.some_ e
        cases h0
    have hes : es = [] := by have := h.len; rw [hn0] at this; exact List.length_eq_zero_iff.1 this
    exact fun w hS => ⟨(none, 0), trivial, by rw [hn0]; rfl, by rw [hn0, hes]; exact hS.sub (by repeat (first | exact SubL.nil | (apply SubL.cons; (repeat (first | exact At.here | apply At.there))) | exact SubL.refl _ | apply SubL.skip))⟩
  · skip
    refine skp (h := ?_)
    refine q_seq (h := ?_)
    refine sq (h := ?_)
    refine rg (h := ?_)
    refine bs (h := fun b0 => ?_)
    refine WL.y (hy := mv) (h := ?_)
    first | refine ap (h := fun A1 c1 => ?_) | refine ap0 (h := fun A1 c1 => ?_)
    refine WL.y (hy := asg) (h := ?_)
    refine nl (h := ?_)
    refine q_seq (h := ?_)
    refine rtn (h := ?_)
    refine q_ret (hR := ?_)
    exact fun w hS => ⟨(_, _), trivial, by simp only [Nat.zero_add]; rfl, by simp only [Nat.zero_add, List.nil_append] at hS; exact hS.sub (by repeat (first | exact SubL.nil | (apply SubL.cons; (repeat (first | exact At.here | apply At.there))) | exact SubL.refl _ | apply SubL.skip))⟩
theorem C_EqualInts (xs ys : List Int) (A B : Option Addr) (n c m d : Nat) (w : World) (h : Rd w A 1 n (enI xs)) (h' : Rd w B 1 m (enI ys)) (hn : n ≤ 9223372036854775807) :
    C0 Try.prog 50 [.slice A n c, .slice B m d] w (.bool (decide (xs = ys))) := by
  have hx : xs.length = n := by have := h.len; rwa [enI_len] at this
  have hy : ys.length = m := by have := h'.len; rwa [enI_len] at this
  refine ⟨en Try.func50 Try.ntmps50 (((St.init w).share (e := .ro A 1 n (enI xs)) h rfl rfl rfl).share (e := .ro B 1 m (enI ys)) h' rfl rfl rfl) (h := fun F => ?_)⟩
  refine sq (h := ?_)
  refine rg (h := ?_)
  refine WL.y (hy := asg) (h := ?_)
  refine nl (h := ?_)
  refine q_seq (h := ?_)
  refine sq (h := ?_)
  refine sq (h := ?_)
  refine rg (h := ?_)
  refine WL.y (hy := mv) (h := ?_)
  refine WL.y (hy := lenS) (h := ?_)
  refine WL.y (hy := mv) (h := ?_)
  refine WL.y (hy := lenS) (h := ?_)
  refine WL.y (hy := neq) (h := ?_)
  refine nl (h := ?_)
  refine q_seq (h := ?_)
  refine cd (by exact rfl) (fun h0 => ?_) (fun h0 => ?_)
  · skip
    have hE : decide (xs = ys) = false := decide_eq_false (by rintro rfl; simp only [Bool.not_eq_true', decide_eq_false_iff_not] at h0; omega)
    refine sq (h := ?_)
    refine rg (h := ?_)
    refine WL.y (hy := asg) (h := ?_)
    refine nl (h := ?_)
    refine q_seq (h := ?_)
    refine rtn (h := ?_)
    refine q_then_ret (h := ?_)
    refine q_ret (hR := ?_)
    rw [hE]
    exact fun w hS => ⟨rfl, hS.sub (by repeat (first | exact SubL.nil | (apply SubL.cons; (repeat (first | exact At.here | apply At.there))) | exact SubL.refl _ | apply SubL.skip))⟩
  · skip
    have hnm : n = m := by simp only [Bool.not_eq_false', decide_eq_true_eq] at h0; omega
    subst hnm
    refine skp (h := ?_)
    refine q_seq (h := ?_)
    refine sq (h := ?_)
    refine sq (h := ?_)
    refine rg (h := ?_)
    refine WL.y (hy := mv) (h := ?_)
    refine WL.y (hy := lenS) (h := ?_)
    refine WL.y (hy := mv) (h := ?_)
    refine nl (h := ?_)
    refine q_seq (h := ?_)
    refine bk (h := ?_)
    refine lp (X := IZ) (I := fun z => z.k ≤ n ∧ xs.take z.k = ys.take z.k) (le := fun z => [(0, .slice A n c), (1, .slice B n d), (12, .int .i64 n), (13, .int .i64 z.k)]) (Le := fun _ => [.ro A 1 n (enI xs), .ro B 1 n (enI ys)]) (μ := fun z => n - z.k) ⟨0⟩ ⟨Nat.zero_le _, rfl⟩ (by repeat (first | exact trivial | refine ⟨rfl, ?_⟩)) (by repeat (first | exact SubL.nil | (apply SubL.cons; (repeat (first | exact At.here | apply At.there))) | exact SubL.refl _ | apply SubL.skip)) (fun z hz => ?_)
    obtain ⟨hz1, hz2⟩ := hz
    refine sq (h := ?_)
    refine rg (h := ?_)
    refine WL.y (hy := lss) (h := ?_)
    refine nl (h := ?_)
    refine q_seq (h := ?_)
    refine sq (h := ?_)
    refine cd (by exact rfl) (fun h1 => ?_) (fun h1 => ?_)
    · skip
      have hkn : z.k < n := by simp only [decide_eq_true_eq] at h1; omega
      obtain ⟨x, hx1⟩ : ∃ x, xs[z.k]? = some x := ⟨_, List.getElem?_eq_getElem (by omega)⟩
      obtain ⟨y, hy1⟩ : ∃ y, ys[z.k]? = some y := ⟨_, List.getElem?_eq_getElem (by omega)⟩
      have hxe := enI_at hx1
      have hye := enI_at hy1
      refine skp (h := ?_)
      refine q_seq (h := ?_)
      refine sq (h := ?_)
      refine bk (h := ?_)
      refine sq (h := ?_)
      refine rg (h := ?_)
      refine WL.y (hy := mv) (h := ?_)
      refine WL.y (hy := asg) (h := ?_)
      refine nl (h := ?_)
      refine q_seq (h := ?_)
      refine sq (h := ?_)
      refine rgD0 (by kernel_rfl) (h := ?_)
      refine tk 0 (hy := mv) (h := ?_)
      refine tk 1 (hy := mv) (h := ?_)
      refine tk 2 (hy := ix (A := A) (m := n)) (h := ?_)
      refine tk 3 (hy := ldE (A := A) (hk := hxe)) (h := ?_)
      refine tk 4 (hy := mv) (h := ?_)
      refine tk 5 (hy := mv) (h := ?_)
      refine tk 6 (hy := ix (A := B) (m := n)) (h := ?_)
      refine tk 7 (hy := ldE (A := B) (hk := hye)) (h := ?_)
      refine tk 8 (hy := neq) (h := ?_)
      refine dn (h := ?_)
      refine q_seq (h := ?_)
      refine cd (by exact rfl) (fun h2 => ?_) (fun h2 => ?_)
      · skip
        have hne : x ≠ y := by simpa using h2
        have hE : decide (xs = ys) = false := decide_eq_false (by rintro rfl; rw [hx1] at hy1; exact hne (Option.some.inj hy1))
        refine sq (h := ?_)
        refine rg (h := ?_)
        refine WL.y (hy := asg) (h := ?_)
        refine nl (h := ?_)
        refine q_seq (h := ?_)
        refine rtn (h := ?_)
        refine q_blk_ret (h := ?_)
        refine q_then_ret (h := ?_)
        refine q_then_ret (h := ?_)
        refine q_blk_ret (h := ?_)
        refine q_then_ret (h := ?_)
        refine q_ret (hR := ?_)
        rw [hE]
        exact fun w hS => ⟨rfl, hS.sub (by repeat (first | exact SubL.nil | (apply SubL.cons; (repeat (first | exact At.here | apply At.there))) | exact SubL.refl _ | apply SubL.skip))⟩
      · skip
        have hxy : x = y := by simpa using h2
        refine skp (h := ?_)
        refine q_blk_norm (h := ?_)
        refine q_seq (h := ?_)
        refine rg (h := ?_)
        refine WL.y (hy := addI) (h := ?_)
        refine WL.y (hy := mv) (h := ?_)
        refine nl (h := ?_)
        refine rn (x := z) ⟨z.k + 1⟩ ⟨by dsimp only; omega, by dsimp only; rw [List.take_add_one, List.take_add_one, hx1, hy1, hz2, hxy]⟩ (by dsimp only; omega) (by repeat (first | exact trivial | refine ⟨rfl, ?_⟩)) (by repeat (first | exact SubL.nil | (apply SubL.cons; (repeat (first | exact At.here | apply At.there))) | exact SubL.refl _ | apply SubL.skip))
    · skip
      have hkn : z.k = n := by simp only [decide_eq_false_iff_not] at h1; omega
      have hE : decide (xs = ys) = true := decide_eq_true (by rw [hkn] at hz2; rwa [List.take_of_length_le (by omega), List.take_of_length_le (by omega)] at hz2)
      refine et (h := ?_)
      refine q_then_exit (h := ?_)
      refine q_then_exit (h := ?_)
      refine q_blk_hit (h := ?_)
      refine q_seq (h := ?_)
      refine sq (h := ?_)
      refine rg (h := ?_)
      refine WL.y (hy := asg) (h := ?_)
      refine nl (h := ?_)
      refine q_seq (h := ?_)
      refine rtn (h := ?_)
      refine q_ret (hR := ?_)
      rw [hE]
      exact fun w hS => ⟨rfl, hS.sub (by repeat (first | exact SubL.nil | (apply SubL.cons; (repeat (first | exact At.here | apply At.there))) | exact SubL.refl _ | apply SubL.skip))⟩
/-! #### a sheet as numbers of persons -/
def pr1 (p : Pl) (y : Int) (l : List Int) : Option Int := bif decide (y = -1) then some (-1) else bif decide (perI p y < 0) || hasV l (perI p y) then none else some (perI p y)
def prsTo (p : Pl) (sheet : List Int) : Nat → Option (List Int)
  | 0 => some []
  | k + 1 => match prsTo p sheet k with
    | none => none
    | some l => match sheet[k]? with
      | none => some l
      | some y => (pr1 p y l).map fun n => l ++ [n]
def persV (p : Pl) (sheet : List Int) : List Int × Bool := match prsTo p sheet sheet.length with
  | none => ([], false)
  | some l => (l, decide ((l.length : Int) = p.size))
theorem prsTo_none {p : Pl} {sheet : List Int} {j : Nat} (h : prsTo p sheet j = none) : ∀ {k : Nat}, j ≤ k → prsTo p sheet k = none
  | 0, hk => by obtain rfl : j = 0 := by omega
                exact h
  | k + 1, hk => by
    by_cases e : j = k + 1
    · subst e; exact h
    · rw [prsTo, prsTo_none h (k := k) (by omega)]
theorem prsTo_len {p : Pl} {sheet : List Int} : ∀ {k : Nat} {l : List Int}, k ≤ sheet.length → prsTo p sheet k = some l → l.length = k
  | 0, l, _, h => by rw [prsTo] at h; cases h; rfl
  | k + 1, l, hk, h => by
    rw [prsTo] at h
    cases h1 : prsTo p sheet k with
    | none => rw [h1] at h; cases h
    | some l' =>
      rw [h1, List.getElem?_eq_getElem (by omega)] at h
      have := prsTo_len (k := k) (by omega) h1
      simp only at h
      obtain ⟨n, _, rfl⟩ := Option.map_eq_some_iff.1 h
      simp [this]
structure PZ where
  (k : Nat) (A : Option Addr) (c : Nat) (l : List Int)
set_option maxHeartbeats 2000000 in
theorem C_persons (p : Pl) (a : PA) (sheet : List Int) (sA : Option Addr) (sc : Nat) (hn : sheet.length ≤ 1000) (w : World) (h : PRd w p a) (hs : Rd w sA 1 sheet.length (enI sheet)) :
    CR Try.prog 81 [p.val a, .slice sA sheet.length sc] w (fun _ : Option Addr × Nat => True) (fun x => .tuple #[.slice x.1 (persV p sheet).1.length x.2, .bool (persV p sheet).2]) (fun x => [.own x.1 x.2 3 1 (persV p sheet).1.length (enI (persV p sheet).1)]) := by
  obtain ⟨hp, hl, hpn, hln, hpc⟩ := h
  refine ⟨en Try.func81 Try.ntmps81 ((((St.init w).share (e := .ro a.pA 3 p.ps.length (encPs p.ps)) hp rfl rfl rfl).share (e := .ro a.lA 1 p.lots.length (enI p.lots)) hl rfl rfl rfl).share (e := .ro sA 1 sheet.length (enI sheet)) hs rfl rfl rfl) (h := fun F => ?_)⟩
  refine sq (h := ?_)
  refine rg (h := ?_)
  refine bxA (h := fun b0 => ?_)
  refine WL.y (hy := asg) (h := ?_)
  refine WL.y (hy := asg) (h := ?_)
  refine nl (h := ?_)
  refine q_seq (h := ?_)
  refine sq (h := ?_)
  refine WC.nilOwn 3 1 (h := ?_)
  refine rg (h := ?_)
  refine WL.y (hy := asg) (h := ?_)
  refine nl (h := ?_)
  refine q_seq (h := ?_)
  refine sq (h := ?_)
  refine sq (h := ?_)
  refine rg (h := ?_)
  refine WL.y (hy := mv) (h := ?_)
  refine WL.y (hy := lenS) (h := ?_)
  refine WL.y (hy := mv) (h := ?_)
  refine nl (h := ?_)
  refine q_seq (h := ?_)
  refine bk (h := ?_)
  refine lp (X := PZ) (I := fun z => z.k ≤ sheet.length ∧ prsTo p sheet z.k = some z.l) (le := fun z => [(2, .pointer (some ⟨b0, 0, none⟩)), (6, .slice z.A z.l.length z.c), (10, .slice sA sheet.length sc), (11, .int .i64 sheet.length), (12, .int .i64 z.k)]) (Le := fun z => .own z.A z.c 3 1 z.l.length (enI z.l) :: .ro sA 1 sheet.length (enI sheet) :: plL p a b0) (μ := fun z => sheet.length - z.k) ⟨0, none, 0, []⟩ ⟨Nat.zero_le _, rfl⟩ (by repeat (first | exact trivial | refine ⟨rfl, ?_⟩)) (by repeat (first | exact SubL.nil | (apply SubL.cons; (repeat (first | exact At.here | apply At.there))) | exact SubL.refl _ | apply SubL.skip)) (fun z hz => ?_)
  obtain ⟨hz1, hz2⟩ := hz
  refine sq (h := ?_)
  refine rg (h := ?_)
  refine WL.y (hy := lss) (h := ?_)
  refine nl (h := ?_)
  refine q_seq (h := ?_)
  refine sq (h := ?_)
  refine cd (by exact rfl) (fun h0 => ?_) (fun h0 => ?_)
  · skip
    have hkn : z.k < sheet.length := by simp only [decide_eq_true_eq] at h0; omega
    obtain ⟨y, hy1⟩ : ∃ y, sheet[z.k]? = some y := ⟨_, List.getElem?_eq_getElem hkn⟩
    have hye := enI_at hy1
    have hst : prsTo p sheet (z.k + 1) = (pr1 p y z.l).map fun n => z.l ++ [n] := by rw [prsTo, hz2, hy1]
    have hzl := prsTo_len (by omega) hz2
    refine skp (h := ?_)
    refine q_seq (h := ?_)
    refine sq (h := ?_)
    refine bk (h := ?_)
    refine sq (h := ?_)
    refine rg (h := ?_)
    refine WL.y (hy := ix (A := sA) (m := sheet.length)) (h := ?_)
    refine WL.y (hy := ldE (A := sA) (hk := hye)) (h := ?_)
    refine WL.y (hy := asg) (h := ?_)
    refine nl (h := ?_)
    refine q_seq (h := ?_)
    refine sq (h := ?_)
    refine rg (h := ?_)
    refine WL.y (hy := asg) (h := ?_)
    refine nl (h := ?_)
    refine q_seq (h := ?_)
    refine sq (h := ?_)
    refine sq (h := ?_)
    refine rg (h := ?_)
    refine WL.y (hy := mv) (h := ?_)
    refine WL.y (hy := neq) (h := ?_)
    refine nl (h := ?_)
    refine q_seq (h := ?_)
    refine cd (by exact rfl) (fun h1 => ?_) (fun h1 => ?_)
    · skip
      refine sq (h := ?_)
      refine rg (h := ?_)
      refine WL.y (hy := (by first | exact ldA | exact ldEA)) (h := ?_)
      refine WL.y (hy := mv) (h := ?_)
      refine cl0 (hc := fun w hS => C_person p a y w ⟨hS.get, hS.get, hpn, hln, hpc⟩) (h := ?_)
      refine WL.y (hy := asg) (h := ?_)
      refine nl (h := ?_)
      refine q_seq (h := ?_)
      refine sq (h := ?_)
      refine WC.sub (l' := [(2, .pointer (some ⟨b0, 0, none⟩)), (6, .slice z.A z.l.length z.c), (9, .int .i64 (perI p y)), (10, .slice sA sheet.length sc), (11, .int .i64 sheet.length), (12, .int .i64 z.k)]) (by repeat (first | exact trivial | refine ⟨rfl, ?_⟩)) ?_
      refine rg (h := ?_)
      refine WL.y (hy := mv) (h := ?_)
      refine WL.y (hy := lss) (h := ?_)
      refine WL.y (hy := mv) (h := ?_)
      apply brOr 4 23 27 (by exact rfl)
      · intro hb2
        refine un (h := ?_)
        refine WL.y (hy := mv) (h := ?_)
        refine un (h := ?_)
        refine WL.y (hy := mv) (h := ?_)
        refine un (h := ?_)
        refine cl0 (hc := fun w hS => C_slices_Contains z.l (perI p y) z.A z.l.length z.c w (hS.get (by repeat (first | exact Rds.own | apply Rds.there))) (by omega)) (h := ?_)
        refine WL.y (hy := (by first | exact pkT | exact pkF)) (h := ?_)
        exact mg (by repeat (first | exact trivial | refine ⟨rfl, ?_⟩ | refine ⟨by rw [hb2]; rfl, ?_⟩)) (by repeat (first | exact SubL.nil | (apply SubL.cons; (repeat (first | exact At.here | apply At.there))) | exact SubL.refl _ | apply SubL.skip))
      · intro hb2
        repeat (first | refine un (h := ?_) | refine sk (h := ?_) | refine WL.y (hy := pkF) (h := ?_) | refine WL.y (hy := pkT) (h := ?_))
        exact mg (by repeat (first | exact trivial | refine ⟨rfl, ?_⟩ | refine ⟨by rw [hb2]; rfl, ?_⟩)) (by repeat (first | exact SubL.nil | (apply SubL.cons; (repeat (first | exact At.here | apply At.there))) | exact SubL.refl _ | apply SubL.skip))
      refine nl (h := ?_)
      refine q_seq (h := ?_)
      refine cd (by exact rfl) (fun h3 => ?_) (fun h3 => ?_)
      · skip
        have hy0 : decide (y = -1) = false := by simpa using ‹(!decide (y = -1)) = true›
        have hbad : prsTo p sheet (z.k + 1) = none := by rw [hst, pr1, hy0]; simp only [cond_false]; rw [show (decide (perI p y < 0) || hasV z.l (perI p y)) = true from h3]; rfl
        have hE : persV p sheet = ([], false) := by rw [persV, prsTo_none hbad (by omega)]
        refine WC.nilOwn 3 1 (h := ?_)
        refine sq (h := ?_)
        refine rg (h := ?_)
        refine WL.y (hy := asg) (h := ?_)
        refine WL.y (hy := asg) (h := ?_)
        refine nl (h := ?_)
        refine q_seq (h := ?_)
        refine rtn (h := ?_)
        refine q_then_ret (h := ?_)
        refine q_blk_ret (h := ?_)
        refine q_then_ret (h := ?_)
        refine q_then_ret (h := ?_)
        refine q_blk_ret (h := ?_)
        refine q_then_ret (h := ?_)
        refine q_ret (hR := ?_)
        rw [hE]
        exact fun w hS => ⟨(none, 0), trivial, rfl, hS.sub (by repeat (first | exact SubL.nil | (apply SubL.cons; (repeat (first | exact At.here | apply At.there))) | exact SubL.refl _ | apply SubL.skip))⟩
      · skip
        have hy0 : decide (y = -1) = false := by simpa using ‹(!decide (y = -1)) = true›
        have hp1 : pr1 p y z.l = some (perI p y) := by rw [pr1, hy0]; simp only [cond_false]; rw [show (decide (perI p y < 0) || hasV z.l (perI p y)) = false from h3]; rfl
        have hnx : prsTo p sheet (z.k + 1) = some (z.l ++ [perI p y]) := by rw [hst, hp1]; rfl
        refine skp (h := ?_)
        refine q_seq (h := ?_)
        refine rg (h := ?_)
        refine WL.y (hy := mv) (h := ?_)
        refine WL.y (hy := mv) (h := ?_)
        refine bs (h := fun b1 => ?_)
        first | refine ap (h := fun A1 c1 => ?_) | refine ap0 (h := fun A1 c1 => ?_)
        refine WL.y (hy := asg) (h := ?_)
        refine nl (h := ?_)
        refine q_blk_norm (h := ?_)
        refine q_seq (h := ?_)
        refine rg (h := ?_)
        refine WL.y (hy := addI) (h := ?_)
        refine WL.y (hy := mv) (h := ?_)
        refine nl (h := ?_)
        first
          | refine rn (x := z) ⟨z.k + 1, _, _, z.l ++ [-1]⟩ ⟨by dsimp only; omega, hnx⟩ (by dsimp only; omega) (by dsimp only; rw [List.length_append]; repeat (first | exact trivial | refine ⟨rfl, ?_⟩)) (by dsimp only; rw [← enI_app, List.length_append]; repeat (first | exact SubL.nil | (apply SubL.cons; (repeat (first | exact At.here | apply At.there))) | exact SubL.refl _ | apply SubL.skip))
          | refine rn (x := z) ⟨z.k + 1, _, _, z.l ++ [perI p y]⟩ ⟨by dsimp only; omega, hnx⟩ (by dsimp only; omega) (by dsimp only; rw [List.length_append]; repeat (first | exact trivial | refine ⟨rfl, ?_⟩)) (by dsimp only; rw [← enI_app, List.length_append]; repeat (first | exact SubL.nil | (apply SubL.cons; (repeat (first | exact At.here | apply At.there))) | exact SubL.refl _ | apply SubL.skip))
    · skip
      have hp1 : pr1 p y z.l = some (-1) := by rw [pr1, (by simpa using h1 : y = -1)]; rfl
      have hnx : prsTo p sheet (z.k + 1) = some (z.l ++ [-1]) := by rw [hst, hp1]; rfl
      refine skp (h := ?_)
      refine q_seq (h := ?_)
      refine rg (h := ?_)
      refine WL.y (hy := mv) (h := ?_)
      refine WL.y (hy := mv) (h := ?_)
      refine bs (h := fun b2 => ?_)
      first | refine ap (h := fun A2 c2 => ?_) | refine ap0 (h := fun A2 c2 => ?_)
      refine WL.y (hy := asg) (h := ?_)
      refine nl (h := ?_)
      refine q_blk_norm (h := ?_)
      refine q_seq (h := ?_)
      refine rg (h := ?_)
      refine WL.y (hy := addI) (h := ?_)
      refine WL.y (hy := mv) (h := ?_)
      refine nl (h := ?_)
      first
        | refine rn (x := z) ⟨z.k + 1, _, _, z.l ++ [-1]⟩ ⟨by dsimp only; omega, hnx⟩ (by dsimp only; omega) (by dsimp only; rw [List.length_append]; repeat (first | exact trivial | refine ⟨rfl, ?_⟩)) (by dsimp only; rw [← enI_app, List.length_append]; repeat (first | exact SubL.nil | (apply SubL.cons; (repeat (first | exact At.here | apply At.there))) | exact SubL.refl _ | apply SubL.skip))
        | refine rn (x := z) ⟨z.k + 1, _, _, z.l ++ [perI p y]⟩ ⟨by dsimp only; omega, hnx⟩ (by dsimp only; omega) (by dsimp only; rw [List.length_append]; repeat (first | exact trivial | refine ⟨rfl, ?_⟩)) (by dsimp only; rw [← enI_app, List.length_append]; repeat (first | exact SubL.nil | (apply SubL.cons; (repeat (first | exact At.here | apply At.there))) | exact SubL.refl _ | apply SubL.skip))
  · skip
    have hkn : z.k = sheet.length := by simp only [decide_eq_false_iff_not] at h0; omega
    rw [hkn] at hz2
    have hE : persV p sheet = (z.l, decide ((z.l.length : Int) = p.size)) := by rw [persV, hz2]
    refine et (h := ?_)
    refine q_then_exit (h := ?_)
    refine q_then_exit (h := ?_)
    refine q_blk_hit (h := ?_)
    refine q_seq (h := ?_)
    refine sq (h := ?_)
    refine rgD0 (by kernel_rfl) (h := ?_)
    refine tk 0 (hy := mv) (h := ?_)
    refine tk 1 (hy := mv) (h := ?_)
    refine tk 2 (hy := lenS) (h := ?_)
    refine tk 3 (hy := (by first | exact fa | exact faE)) (h := ?_)
    refine tk 4 (hy := (by first | exact ld | exact ldE)) (h := ?_)
    refine tk 5 (hy := eql) (h := ?_)
    refine tk 6 (hy := asg) (h := ?_)
    refine tk 7 (hy := asg) (h := ?_)
    refine dn (h := ?_)
    refine q_seq (h := ?_)
    refine rtn (h := ?_)
    refine q_ret (hR := ?_)
    rw [hE]
    exact fun w hS => ⟨(z.A, z.c), trivial, rfl, hS.sub (by repeat (first | exact SubL.nil | (apply SubL.cons; (repeat (first | exact At.here | apply At.there))) | exact SubL.refl _ | apply SubL.skip))⟩
def chV (p : Pl) (sheet : List Int) : List Int × Int := bif !pOk p then ([], 60) else bif !(persV p sheet).2 then ([], 61) else ((persV p sheet).1, 0)
theorem C_dr_check (p : Pl) (a : PA) (hz : -9223372036854775808 ≤ p.size ∧ p.size ≤ 9223372036854775807) (sheet : List Int) (sA : Option Addr) (sc : Nat) (hn : sheet.length ≤ 1000) (w : World) (h : PRd w p a) (hs : Rd w sA 1 sheet.length (enI sheet)) :
    CR Try.prog 48 [p.val a, .slice sA sheet.length sc] w (fun _ : Option Addr × Nat => True) (fun x => .tuple #[.slice x.1 (chV p sheet).1.length x.2, .int .i64 (chV p sheet).2]) (fun x => [.own x.1 x.2 3 1 (chV p sheet).1.length (enI (chV p sheet).1)]) := by
  obtain ⟨hp, hl, hpn, hln, hpc⟩ := h
  refine ⟨en Try.func48 Try.ntmps48 ((((St.init w).share (e := .ro a.pA 3 p.ps.length (encPs p.ps)) hp rfl rfl rfl).share (e := .ro a.lA 1 p.lots.length (enI p.lots)) hl rfl rfl rfl).share (e := .ro sA 1 sheet.length (enI sheet)) hs rfl rfl rfl) (h := fun F => ?_)⟩
  refine sq (h := ?_)
  refine rg (h := ?_)
  refine bxA (h := fun b0 => ?_)
  refine WL.y (hy := asg) (h := ?_)
  refine WL.y (hy := asg) (h := ?_)
  refine nl (h := ?_)
  refine q_seq (h := ?_)
  refine sq (h := ?_)
  refine sq (h := ?_)
  refine rg (h := ?_)
  refine WL.y (hy := (by first | exact ldA | exact ldEA)) (h := ?_)
  refine cl0 (hc := fun w hS => C_dr_Check p a hz w ⟨hS.get, hS.get, hpn, hln, hpc⟩) (h := ?_)
  refine WL.y (hy := asg) (h := ?_)
  refine nl (h := ?_)
  refine q_seq (h := ?_)
  refine sq (h := ?_)
  refine rg (h := ?_)
  refine WL.y (hy := mv) (h := ?_)
  refine WL.y (hy := neq) (h := ?_)
  refine nl (h := ?_)
  refine q_seq (h := ?_)
  refine cd (by exact rfl) (fun h0 => ?_) (fun h0 => ?_)
  · skip
    have hb := chkP_no h0
    have hE : chV p sheet = ([], chkP p) := by rw [chV, chkP, hb]; rfl
    refine WC.nilOwn 3 1 (h := ?_)
    refine sq (h := ?_)
    refine rg (h := ?_)
    refine WL.y (hy := mv) (h := ?_)
    refine WL.y (hy := asg) (h := ?_)
    refine WL.y (hy := asg) (h := ?_)
    refine nl (h := ?_)
    refine q_seq (h := ?_)
    refine rtn (h := ?_)
    refine q_then_ret (h := ?_)
    refine q_ret (hR := ?_)
    rw [hE]
    exact fun w hS => ⟨(none, 0), trivial, rfl, hS.sub (by repeat (first | exact SubL.nil | (apply SubL.cons; (repeat (first | exact At.here | apply At.there))) | exact SubL.refl _ | apply SubL.skip))⟩
  · skip
    obtain ⟨hq, hb⟩ := chkP_ok h0
    refine skp (h := ?_)
    refine q_seq (h := ?_)
    refine sq (h := ?_)
    refine rg (h := ?_)
    refine WL.y (hy := (by first | exact ldA | exact ldEA)) (h := ?_)
    refine WL.y (hy := mv) (h := ?_)
    refine cl (hc := fun w hS => C_persons p a sheet sA sc hn w ⟨hS.get, hS.get, hpn, hln, hpc⟩ hS.get) (h := fun x0 _ => ?_)
    refine WL.y (hy := mv) (h := ?_)
    refine WL.y (hy := ex) (h := ?_)
    refine WL.y (hy := ex) (h := ?_)
    refine WL.y (hy := asg) (h := ?_)
    refine WL.y (hy := asg) (h := ?_)
    refine nl (h := ?_)
    refine q_seq (h := ?_)
    refine sq (h := ?_)
    refine sq (h := ?_)
    refine rg (h := ?_)
    refine WL.y (hy := mv) (h := ?_)
    refine WL.y (hy := notB) (h := ?_)
    refine nl (h := ?_)
    refine q_seq (h := ?_)
    refine cd (by exact rfl) (fun h1 => ?_) (fun h1 => ?_)
    · skip
      have hE : chV p sheet = ([], 61) := by rw [chV, hb, show (!(persV p sheet).2) = true from h1]; rfl
      refine WC.nilOwn 3 1 (h := ?_)
      refine sq (h := ?_)
      refine rg (h := ?_)
      refine WL.y (hy := asg) (h := ?_)
      refine WL.y (hy := asg) (h := ?_)
      refine nl (h := ?_)
      refine q_seq (h := ?_)
      refine rtn (h := ?_)
      refine q_then_ret (h := ?_)
      refine q_ret (hR := ?_)
      rw [hE]
      exact fun w hS => ⟨(none, 0), trivial, rfl, hS.sub (by repeat (first | exact SubL.nil | (apply SubL.cons; (repeat (first | exact At.here | apply At.there))) | exact SubL.refl _ | apply SubL.skip))⟩
    · skip
      have hE : chV p sheet = ((persV p sheet).1, 0) := by rw [chV, hb, show (!(persV p sheet).2) = false from h1]; rfl
      refine skp (h := ?_)
      refine q_seq (h := ?_)
      refine sq (h := ?_)
      refine rg (h := ?_)
      refine WL.y (hy := mv) (h := ?_)
      refine WL.y (hy := asg) (h := ?_)
      refine WL.y (hy := asg) (h := ?_)
      refine nl (h := ?_)
      refine q_seq (h := ?_)
      refine rtn (h := ?_)
      refine q_ret (hR := ?_)
      rw [hE]
      exact fun w hS => ⟨x0, trivial, rfl, hS.sub (by repeat (first | exact SubL.nil | (apply SubL.cons; (repeat (first | exact At.here | apply At.there))) | exact SubL.refl _ | apply SubL.skip))⟩
end Go.Proofs.Ytjkoaifjmcgpfaa
