/- The law of the published sum. -/
import Derived.Test.YtjkoaifjmcgpfaaK51
namespace Go.Proofs.Ytjkoaifjmcgpfaa
open Go Go.RowKit

theorem sumI_app (a b : List Int) : sumI (a ++ b) = sumI a + sumI b := by
  induction a with
  | nil => simp [sumI]
  | cons x a ih => rw [List.cons_append, sumI, sumI, ih]; omega
theorem more_lots {p : Pl} (L : List Int) (rk : List Int) : ∀ (f : Nat) (l : List Int) (byes : Int), moreV { p with lots := L } rk f l byes = moreV p rk f l byes
  | 0, _, _ => rfl
  | f + 1, l, byes => by
    rw [moreV, moreV]
    refine flatMap_congr_ fun n _ => ?_
    have e : skipV { p with lots := L } l byes n = skipV p l byes n := rfl
    rw [e, more_lots L rk f]
theorem drw_lots {p : Pl} (hb : pOk p = true) {L : List Int} (h1 : L.length ≤ 10) (h2 : ∀ n ∈ L, 0 ≤ n ∧ n ≤ 999999) (h3 : sumI L = sumI p.lots) : drwP { p with lots := L } = drwP p := by
  have hok : pOk { p with lots := L } = true := by
    simp only [pOk, headOk, Bool.and_eq_true] at hb ⊢
    refine ⟨⟨⟨hb.1.1.1, decide_eq_true (by omega)⟩, hb.1.2⟩, List.all_eq_true.2 fun n hn => ?_⟩
    rw [lotOk, win_iff]; exact h2 n hn
  have hrk : rkV { p with lots := L } = rkV p := rfl
  have hd : drawsV { p with lots := L } = drawsV p := by rw [drawsV, hrk]; exact more_lots L _ _ _ _
  have hp : ∀ r, pickL { p with lots := L } r = pickL p r := fun r => by unfold pickL; rw [hd]; rfl
  unfold drwP
  rw [hok, hb, hd, h3, hp]
/-- The lots from another one on. -/
def rotTo (l : List Int) (t k : Nat) : List Int := (List.range k).map fun i => l.getD ((i + t) % l.length) 0
theorem rot_succ (l : List Int) (t k : Nat) : rotTo l t (k + 1) = rotTo l t k ++ [l.getD ((k + t) % l.length) 0] := by simp [rotTo, List.range_succ]
theorem rot_len (l : List Int) (t k : Nat) : (rotTo l t k).length = k := by simp [rotTo]
theorem rot_is (l : List Int) (t : Nat) (h : 0 < l.length) : rotTo l t l.length = l.drop (t % l.length) ++ l.take (t % l.length) := by
  have ht := Nat.mod_lt t h
  refine List.ext_getElem (by rw [rot_len, List.length_append, List.length_drop, List.length_take]; omega) fun i h1 h2 => ?_
  rw [rot_len] at h1
  have hi : (i + t) % l.length < l.length := Nat.mod_lt _ h
  have e0 : (i + t) % l.length = (i + t % l.length) % l.length := by rw [Nat.add_mod, Nat.add_mod i (t % l.length), Nat.mod_mod]
  have e1 : (rotTo l t l.length)[i] = l[(i + t) % l.length] := by
    simp only [rotTo, List.getElem_map, List.getElem_range]
    rw [List.getD_eq_getElem?_getD, List.getElem?_eq_getElem hi]; rfl
  rw [e1]
  by_cases hlt : i < l.length - t % l.length
  · rw [List.getElem_append_left (by rw [List.length_drop]; exact hlt), List.getElem_drop]
    congr 1
    rw [e0, Nat.mod_eq_of_lt (by omega)]; omega
  · rw [List.getElem_append_right (by rw [List.length_drop]; omega), List.getElem_take]
    congr 1
    rw [List.length_drop, e0, Nat.mod_eq_sub_mod (by omega), Nat.mod_eq_of_lt (by omega)]
    omega
theorem rot_law (l : List Int) (t : Nat) : sumI (rotTo l t l.length) = sumI l ∧ ∀ n ∈ rotTo l t l.length, n ∈ l := by
  by_cases h : 0 < l.length
  · rw [rot_is l t h, sumI_app]
    constructor
    · have := sumI_app (l.take (t % l.length)) (l.drop (t % l.length))
      rw [List.take_append_drop] at this
      omega
    · intro n hn
      rcases List.mem_append.1 hn with hn | hn
      · exact List.mem_of_mem_drop hn
      · exact List.mem_of_mem_take hn
  · have : l = [] := List.length_eq_zero_iff.1 (by omega)
    subst this
    exact ⟨rfl, fun n hn => by cases hn⟩
theorem set0_law {L : List Int} {x y : Int} (h : 0 < L.length) (hs : x + y = L.getD 0 0) : sumI (L.set 0 x ++ [y]) = sumI L := by
  cases L with
  | nil => cases h
  | cons a L =>
    rw [sumI_app]
    simp only [List.set_cons_zero, sumI]
    have : a = (a :: L).getD 0 0 := rfl
    omega
structure SaZ where
  (k : Nat) (A : Option Addr) (c : Nat)
structure SaX where
  (A : Option Addr) (c : Nat) (L : List Int)
set_option maxRecDepth 100000 in
set_option maxHeartbeats 4000000 in
theorem K_DrawsSame (p : Pl) (a : PA) (hz0 : -9223372036854775808 ≤ p.size ∧ p.size ≤ 9223372036854775807) (turn part : Int) (w : World) (h : PRd w p a) : C0 Try.prog 3 [p.val a, .int .i64 turn, .int .i64 part] w (.bool true) := by
  obtain ⟨hp, hl, hpn, hln, hpc⟩ := h
  refine ⟨en Try.func3 Try.ntmps3 (((St.init w).share (e := .ro a.pA 3 p.ps.length (encPs p.ps)) hp rfl rfl rfl).share (e := .ro a.lA 1 p.lots.length (enI p.lots)) hl rfl rfl rfl) (h := fun F => ?_)⟩
  refine sq (h := ?_)
  refine rg (h := ?_)
  refine bxA (h := fun b0 => ?_)
  refine WL.y (hy := asg) (h := ?_)
  refine nl (h := ?_)
  refine q_seq (h := ?_)
  refine sq (h := ?_)
  refine sq (h := ?_)
  refine rg (h := ?_)
  refine WL.y (hy := (by first | exact ldA | exact ldEA)) (h := ?_)
  refine cl0 (hc := fun w hS => C_law06_valid p a hz0 w ⟨hS.get, hS.get, hpn, hln, hpc⟩) (h := ?_)
  refine WL.y (hy := notB) (h := ?_)
  refine WL.y (hy := mv) (h := ?_)
  apply brOr 5 16 21 (by exact rfl)
  · intro hb0
    refine un (h := ?_)
    refine WL.y (hy := (by first | exact fa | exact faE)) (h := ?_)
    refine un (h := ?_)
    refine WL.y (hy := (by first | exact ld | exact ldE)) (h := ?_)
    refine un (h := ?_)
    refine WL.y (hy := lenS) (h := ?_)
    refine un (h := ?_)
    refine WL.y (hy := gtr) (h := ?_)
    refine WL.y (hy := (by first | exact pkT | exact pkF)) (h := ?_)
    exact mg (by repeat (first | exact trivial | refine ⟨rfl, ?_⟩ | refine ⟨by rw [hb0]; rfl, ?_⟩)) (by repeat (first | exact SubL.nil | (apply SubL.cons; (repeat (first | exact At.here | apply At.there))) | exact SubL.refl _ | apply SubL.skip))
  · intro hb0
    repeat (first | refine un (h := ?_) | refine sk (h := ?_) | refine WL.y (hy := pkF) (h := ?_) | refine WL.y (hy := pkT) (h := ?_))
    exact mg (by repeat (first | exact trivial | refine ⟨rfl, ?_⟩ | refine ⟨by rw [hb0]; rfl, ?_⟩)) (by repeat (first | exact SubL.nil | (apply SubL.cons; (repeat (first | exact At.here | apply At.there))) | exact SubL.refl _ | apply SubL.skip))
  refine WL.y (hy := mv) (h := ?_)
  apply brOr 3 22 25 (by exact rfl)
  · intro hb1
    refine un (h := ?_)
    refine WL.y (hy := mv) (h := ?_)
    refine un (h := ?_)
    refine WL.y (hy := lss) (h := ?_)
    refine WL.y (hy := (by first | exact pkT | exact pkF)) (h := ?_)
    exact mg (by repeat (first | exact trivial | refine ⟨rfl, ?_⟩ | refine ⟨by rw [hb1]; rfl, ?_⟩)) (by repeat (first | exact SubL.nil | (apply SubL.cons; (repeat (first | exact At.here | apply At.there))) | exact SubL.refl _ | apply SubL.skip))
  · intro hb1
    repeat (first | refine un (h := ?_) | refine sk (h := ?_) | refine WL.y (hy := pkF) (h := ?_) | refine WL.y (hy := pkT) (h := ?_))
    exact mg (by repeat (first | exact trivial | refine ⟨rfl, ?_⟩ | refine ⟨by rw [hb1]; rfl, ?_⟩)) (by repeat (first | exact SubL.nil | (apply SubL.cons; (repeat (first | exact At.here | apply At.there))) | exact SubL.refl _ | apply SubL.skip))
  refine WL.y (hy := mv) (h := ?_)
  apply brOr 3 26 29 (by exact rfl)
  · intro hb2
    refine un (h := ?_)
    refine WL.y (hy := mv) (h := ?_)
    refine un (h := ?_)
    refine WL.y (hy := gtr) (h := ?_)
    refine WL.y (hy := (by first | exact pkT | exact pkF)) (h := ?_)
    exact mg (by repeat (first | exact trivial | refine ⟨rfl, ?_⟩ | refine ⟨by rw [hb2]; rfl, ?_⟩)) (by repeat (first | exact SubL.nil | (apply SubL.cons; (repeat (first | exact At.here | apply At.there))) | exact SubL.refl _ | apply SubL.skip))
  · intro hb2
    repeat (first | refine un (h := ?_) | refine sk (h := ?_) | refine WL.y (hy := pkF) (h := ?_) | refine WL.y (hy := pkT) (h := ?_))
    exact mg (by repeat (first | exact trivial | refine ⟨rfl, ?_⟩ | refine ⟨by rw [hb2]; rfl, ?_⟩)) (by repeat (first | exact SubL.nil | (apply SubL.cons; (repeat (first | exact At.here | apply At.there))) | exact SubL.refl _ | apply SubL.skip))
  refine WL.y (hy := mv) (h := ?_)
  apply brOr 3 30 33 (by exact rfl)
  · intro hb3
    refine un (h := ?_)
    refine WL.y (hy := mv) (h := ?_)
    refine un (h := ?_)
    refine WL.y (hy := lss) (h := ?_)
    refine WL.y (hy := (by first | exact pkT | exact pkF)) (h := ?_)
    exact mg (by repeat (first | exact trivial | refine ⟨rfl, ?_⟩ | refine ⟨by rw [hb3]; rfl, ?_⟩)) (by repeat (first | exact SubL.nil | (apply SubL.cons; (repeat (first | exact At.here | apply At.there))) | exact SubL.refl _ | apply SubL.skip))
  · intro hb3
    repeat (first | refine un (h := ?_) | refine sk (h := ?_) | refine WL.y (hy := pkF) (h := ?_) | refine WL.y (hy := pkT) (h := ?_))
    exact mg (by repeat (first | exact trivial | refine ⟨rfl, ?_⟩ | refine ⟨by rw [hb3]; rfl, ?_⟩)) (by repeat (first | exact SubL.nil | (apply SubL.cons; (repeat (first | exact At.here | apply At.there))) | exact SubL.refl _ | apply SubL.skip))
  refine nl (h := ?_)
  refine q_seq (h := ?_)
  refine cd (by exact rfl) (fun h4 => ?_) (fun h4 => ?_)
  · skip
    refine sq (h := ?_)
    refine rg (h := ?_)
    refine cl0 (hc := fun w hS => C_law06_works w) (h := ?_)
    refine WL.y (hy := asg) (h := ?_)
    refine nl (h := ?_)
    refine q_seq (h := ?_)
    refine rtn (h := ?_)
    refine q_then_ret (h := ?_)
    refine q_ret (hR := ?_)
    exact fun w hS => ⟨by first | rfl | simp [resV], hS.sub (by repeat (first | exact SubL.nil | (apply SubL.cons; (repeat (first | exact At.here | apply At.there))) | exact SubL.refl _ | apply SubL.skip))⟩
  · skip
    obtain ⟨hv, hn9, ht0, ht1, hp0⟩ : validV p = true ∧ p.lots.length ≤ 9 ∧ 0 ≤ turn ∧ turn ≤ 100 ∧ 0 ≤ part := by
      simp only [Bool.or_eq_false_iff, decide_eq_false_iff_not, Bool.not_eq_false'] at h4
      exact ⟨h4.1.1.1.1, by omega, by omega, by omega, by omega⟩
    obtain ⟨hb, hn1, hn2, hN⟩ := val_ok hv
    have hq := p_ok hb
    have hlt := hq.lt
    obtain ⟨t, rfl⟩ : ∃ t : Nat, turn = (t : Int) := ⟨turn.toNat, by omega⟩
    have hrot := rot_law p.lots t
    have hrl := rot_len p.lots t p.lots.length
    have hdl := drw_len p
    refine skp (h := ?_)
    refine q_seq (h := ?_)
    refine sq (h := ?_)
    refine rg (h := ?_)
    refine WL.y (hy := (by first | exact ldA | exact ldEA)) (h := ?_)
    refine cl (hc := fun w hS => C_dr_Draw p a hz0 w ⟨hS.get, hS.get, hpn, hln, hpc⟩) (h := fun x0 _ => ?_)
    refine WL.y (hy := mv) (h := ?_)
    refine WL.y (hy := ex) (h := ?_)
    refine WL.y (hy := ex) (h := ?_)
    refine WL.y (hy := asg) (h := ?_)
    refine WL.y (hy := asg) (h := ?_)
    refine nl (h := ?_)
    refine q_seq (h := ?_)
    refine sq (h := ?_)
    refine rg (h := ?_)
    refine WL.y (hy := (by first | exact ldA | exact ldEA)) (h := ?_)
    refine cl (hc := fun w hS => C_ref06_Copy p a ⟨by omega, by omega⟩ w ⟨hS.get (by repeat (first | exact Rds.ro | apply Rds.there)), hS.get (by repeat (first | exact Rds.ro | apply Rds.there)), hpn, hln, hpc⟩) (h := fun x1 hx1 => ?_)
    refine al (h := fun b1 => ?_)
    first | refine stA (h := ?_) | refine stEA (h := ?_)
    refine nl (h := ?_)
    refine q_seq (h := ?_)
    refine sq (h := ?_)
    refine rg (h := ?_)
    refine WL.y (hy := (by first | exact fa | exact faE)) (h := ?_)
    first | refine st (h := ?_) | refine stE (h := ?_)
    refine nl (h := ?_)
    refine q_seq (h := ?_)
    refine sq (h := ?_)
    refine sq (h := ?_)
    refine WC.nilOwn 3 1 (h := ?_)
    refine rg (h := ?_)
    refine WL.y (hy := asg) (h := ?_)
    refine nl (h := ?_)
    refine q_seq (h := ?_)
    refine bk (h := ?_)
    refine lp (X := SaZ) (I := fun u => u.k ≤ p.lots.length) (le := fun u => [(1, .int .i64 t), (2, .int .i64 part), (3, .pointer (some ⟨b0, 0, none⟩)), (7, .slice x0.1 (drwP p).1.length x0.2), (8, .int .i64 (drwP p).2), (9, .pointer (some ⟨b1, 0, none⟩)), (10, .int .i64 u.k)]) (Le := fun u => .own u.A u.c 3 1 (rotTo p.lots t u.k).length (enI (rotTo p.lots t u.k)) :: .blk b1 25 [.int .i64 p.size, .int .i64 p.seeds, .slice x1.pA p.ps.length x1.pc, .slice u.A (rotTo p.lots t u.k).length u.c] :: .own x1.pA x1.pc 42 3 p.ps.length (encPs p.ps) :: .own x0.1 x0.2 3 1 (drwP p).1.length (enI (drwP p).1) :: plL p a b0) (μ := fun u => p.lots.length - u.k) ⟨0, none, 0⟩ (Nat.zero_le _) (by repeat (first | exact trivial | refine ⟨rfl, ?_⟩)) (by repeat (first | exact SubL.nil | (apply SubL.cons; (repeat (first | exact At.here | apply At.there))) | exact SubL.refl _ | apply SubL.skip)) (fun u hu => ?_)
    refine sq (h := ?_)
    refine sq (h := ?_)
    refine rg (h := ?_)
    refine WL.y (hy := mv) (h := ?_)
    refine WL.y (hy := (by first | exact fa | exact faE)) (h := ?_)
    refine WL.y (hy := (by first | exact ld | exact ldE)) (h := ?_)
    refine WL.y (hy := lenS) (h := ?_)
    refine WL.y (hy := lss) (h := ?_)
    refine nl (h := ?_)
    refine q_seq (h := ?_)
    refine cd (by exact rfl) (fun h5 => ?_) (fun h5 => ?_)
    · skip
      have hkn : u.k < p.lots.length := by simp only [decide_eq_true_eq] at h5; omega
      have hmi : (u.k + t) % p.lots.length < p.lots.length := Nat.mod_lt _ (by omega)
      have hmz : 0 ≤ ((u.k : Int) + t) % (p.lots.length : Int) ∧ ((u.k : Int) + t) % (p.lots.length : Int) < p.lots.length := ⟨Int.emod_nonneg _ (by omega), Int.emod_lt_of_pos _ (by omega)⟩
      have hme : (enI p.lots)[(((u.k : Int) + t) % (p.lots.length : Int)).toNat]? = some [.int .i64 (p.lots.getD ((u.k + t) % p.lots.length) 0)] := by
        rw [show (((u.k : Int) + t) % (p.lots.length : Int)).toNat = (u.k + t) % p.lots.length by rw [← Int.natCast_add, ← Int.natCast_emod, Int.toNat_natCast]]
        exact enI_at (getD_some hmi)
      have hst := rot_succ p.lots t u.k
      have hul := rot_len p.lots t u.k
      refine skp (h := ?_)
      refine q_seq (h := ?_)
      refine sq (h := ?_)
      refine bk (h := ?_)
      refine rgD (by kernel_rfl) [(14, .own u.A u.c 3 1 (rotTo p.lots t u.k).length (enI (rotTo p.lots t u.k))), (16, .blk b1 25 [.int .i64 p.size, .int .i64 p.seeds, .slice x1.pA p.ps.length x1.pc, .slice u.A (rotTo p.lots t u.k).length u.c]), (1000000, .blk b0 25 (p.cells a)), (1000000, .ro a.lA 1 p.lots.length (enI p.lots))] (by repeat (first | exact HS.nil | (apply HS.keep; (repeat (first | exact At.here | apply At.there))) | (apply HS.ro; (repeat (first | exact Rds.ro | exact Rds.own | apply Rds.there))))) (h := ?_)
      refine tk 0 (hy := (by first | exact fa | exact faE)) (h := ?_)
      refine tk 1 (hy := (by first | exact ld | exact ldE)) (h := ?_)
      refine tk 2 (hy := (by first | exact fa | exact faE)) (h := ?_)
      refine tk 3 (hy := (by first | exact ld | exact ldE)) (h := ?_)
      refine tk 4 (hy := mv) (h := ?_)
      refine tk 5 (hy := mv) (h := ?_)
      refine tk 6 (hy := addI) (h := ?_)
      refine tk 7 (hy := (by first | exact fa | exact faE)) (h := ?_)
      refine tk 8 (hy := (by first | exact ld | exact ldE)) (h := ?_)
      refine tk 9 (hy := lenS) (h := ?_)
      refine tk 10 (hy := remI) (h := ?_)
      refine tk 11 (hy := ix (A := a.lA) (m := p.lots.length)) (h := ?_)
      refine tk 12 (hy := ldE (A := a.lA) (hk := hme)) (h := ?_)
      refine one 13 (h := ?_)
      refine bs (h := fun b2 => ?_)
      refine nx (h := ?_)
      refine one 14 (h := ?_)
      first | refine ap (h := fun A1 c1 => ?_) | refine ap0 (h := fun A1 c1 => ?_)
      refine nx (h := ?_)
      refine one 15 (h := ?_)
      refine WL.y (hy := by first | exact fa | exact faE) (h := ?_)
      refine nx (h := ?_)
      refine one 16 (h := ?_)
      first | refine st (h := ?_) | refine stE (h := ?_)
      refine nx (h := ?_)
      refine dn (h := ?_)
      refine q_blk_norm (h := ?_)
      refine q_seq (h := ?_)
      refine rg (h := ?_)
      refine WL.y (hy := mv) (h := ?_)
      refine WL.y (hy := addI) (h := ?_)
      refine WL.y (hy := asg) (h := ?_)
      refine nl (h := ?_)
      refine rn (x := u) ⟨u.k + 1, _, _⟩ (by dsimp only; omega) (by dsimp only; omega) (by repeat (first | exact trivial | refine ⟨rfl, ?_⟩)) (by dsimp only; rw [hst, enI_app, List.length_append]; repeat (first | exact SubL.nil | (apply SubL.cons; (repeat (first | exact At.here | apply At.there))) | exact SubL.refl _ | apply SubL.skip))
    · skip
      have hkn : u.k = p.lots.length := by simp only [decide_eq_false_iff_not] at h5; omega
      rw [hkn]
      refine et (h := ?_)
      refine q_then_exit (h := ?_)
      refine q_then_exit (h := ?_)
      refine q_blk_hit (h := ?_)
      refine q_seq (h := ?_)
      refine ct (X := SaX) (fun x => x.L.length ≤ 10 ∧ (∀ n ∈ x.L, 0 ≤ n ∧ n ≤ 999999) ∧ sumI x.L = sumI p.lots) (fun _ => [(7, .slice x0.1 (drwP p).1.length x0.2), (8, .int .i64 (drwP p).2), (9, .pointer (some ⟨b1, 0, none⟩))]) (fun x => [.own x.A x.c 3 1 x.L.length (enI x.L), .blk b1 25 [.int .i64 p.size, .int .i64 p.seeds, .slice x1.pA p.ps.length x1.pc, .slice x.A x.L.length x.c], .own x1.pA x1.pc 42 3 p.ps.length (encPs p.ps), .own x0.1 x0.2 3 1 (drwP p).1.length (enI (drwP p).1)]) (h1 := ?_) (h2 := ?_)
      · skip
        refine sq (h := ?_)
        refine rg (h := ?_)
        refine WL.y (hy := (by first | exact fa | exact faE)) (h := ?_)
        refine WL.y (hy := (by first | exact ld | exact ldE)) (h := ?_)
        refine WL.y (hy := lenS) (h := ?_)
        refine WL.y (hy := gtr) (h := ?_)
        refine WL.y (hy := mv) (h := ?_)
        apply brAnd 7 70 77 (by exact rfl)
        · intro hb6
          have hg1 : 0 < p.lots.length := by have := of_decide_eq_true hb6; omega
          have hle := enI_at (getD_some (l := rotTo p.lots t p.lots.length) (k := 0) (by omega))
          refine un (h := ?_)
          refine WL.y (hy := mv) (h := ?_)
          refine un (h := ?_)
          refine WL.y (hy := (by first | exact fa | exact faE)) (h := ?_)
          refine un (h := ?_)
          refine WL.y (hy := (by first | exact ld | exact ldE)) (h := ?_)
          refine un (h := ?_)
          refine WL.y (hy := ix (A := u.A) (m := (rotTo p.lots t p.lots.length).length)) (h := ?_)
          refine un (h := ?_)
          refine WL.y (hy := ldE (A := u.A) (hk := hle)) (h := ?_)
          refine un (h := ?_)
          refine WL.y (hy := leq) (h := ?_)
          refine WL.y (hy := (by first | exact pkT | exact pkF)) (h := ?_)
          exact mg (by repeat (first | exact trivial | refine ⟨rfl, ?_⟩ | refine ⟨by rw [hb6]; rfl, ?_⟩)) (by repeat (first | exact SubL.nil | (apply SubL.cons; (repeat (first | exact At.here | apply At.there))) | exact SubL.refl _ | apply SubL.skip))
        · intro hb6
          repeat (first | refine un (h := ?_) | refine sk (h := ?_) | refine WL.y (hy := pkF) (h := ?_) | refine WL.y (hy := pkT) (h := ?_))
          exact mg (by repeat (first | exact trivial | refine ⟨rfl, ?_⟩ | refine ⟨by rw [hb6]; rfl, ?_⟩)) (by repeat (first | exact SubL.nil | (apply SubL.cons; (repeat (first | exact At.here | apply At.there))) | exact SubL.refl _ | apply SubL.skip))
        refine nl (h := ?_)
        refine q_seq (h := ?_)
        refine cd (by exact rfl) (fun h7 => ?_) (fun h7 => ?_)
        · skip
          have hg := h7
          simp only [Bool.and_eq_true, decide_eq_true_eq] at hg
          obtain ⟨hg1, hg2⟩ := hg
          have hL0 := getD_some (l := rotTo p.lots t p.lots.length) (k := 0) (by omega)
          have hle := enI_at hL0
          have hLr := hlt _ (hrot.2 _ (List.mem_of_getElem? hL0))
          refine sq (h := ?_)
          refine rg (h := ?_)
          refine WL.y (hy := (by first | exact fa | exact faE)) (h := ?_)
          refine WL.y (hy := (by first | exact ld | exact ldE)) (h := ?_)
          refine WL.y (hy := ix (A := u.A) (m := (rotTo p.lots t p.lots.length).length)) (h := ?_)
          refine WL.y (hy := ldE (A := u.A) (hk := hle)) (h := ?_)
          refine WL.y (hy := mv) (h := ?_)
          refine WL.y (hy := subI) (h := ?_)
          refine WL.y (hy := ix (A := u.A) (m := (rotTo p.lots t p.lots.length).length)) (h := ?_)
          refine stE (A := u.A) (k := 0) (j := 0) (hk := hle) (h := ?_)
          rw [enI_put]
          refine nl (h := ?_)
          refine q_seq (h := ?_)
          refine rg (h := ?_)
          refine WL.y (hy := (by first | exact fa | exact faE)) (h := ?_)
          refine WL.y (hy := (by first | exact ld | exact ldE)) (h := ?_)
          refine WL.y (hy := mv) (h := ?_)
          refine bs (h := fun b3 => ?_)
          first | refine ap (h := fun A2 c2 => ?_) | refine ap0 (h := fun A2 c2 => ?_)
          refine WL.y (hy := (by first | exact fa | exact faE)) (h := ?_)
          first | refine st (h := ?_) | refine stE (h := ?_)
          refine nl (h := ?_)
          first
            | exact ctn ⟨_, _, (rotTo p.lots t p.lots.length).set 0 ((rotTo p.lots t p.lots.length).getD 0 0 - part) ++ [part]⟩ ⟨by dsimp only; rw [List.length_append, List.length_set, hrl]; simp; omega, fun n hn => by
                dsimp only at hn
                rcases List.mem_append.1 hn with hn | hn
                · rcases List.mem_or_eq_of_mem_set hn with hn | hn
                  · exact hlt _ (hrot.2 _ hn)
                  · subst hn; omega
                · simp only [List.mem_singleton] at hn; subst hn; omega, by dsimp only; rw [set0_law (by omega) (by omega)]; exact hrot.1⟩ (by repeat (first | exact trivial | refine ⟨rfl, ?_⟩)) (by dsimp only; rw [enI_app, List.length_append, List.length_set]; repeat (first | exact SubL.nil | (apply SubL.cons; (repeat (first | exact At.here | apply At.there))) | exact SubL.refl _ | apply SubL.skip))
            | exact ctn ⟨_, _, rotTo p.lots t p.lots.length⟩ ⟨by dsimp only; omega, fun n hn => hlt _ (hrot.2 _ hn), hrot.1⟩ (by repeat (first | exact trivial | refine ⟨rfl, ?_⟩)) (by repeat (first | exact SubL.nil | (apply SubL.cons; (repeat (first | exact At.here | apply At.there))) | exact SubL.refl _ | apply SubL.skip))
        · skip
          refine skp (h := ?_)
          first
            | exact ctn ⟨_, _, (rotTo p.lots t p.lots.length).set 0 ((rotTo p.lots t p.lots.length).getD 0 0 - part) ++ [part]⟩ ⟨by dsimp only; rw [List.length_append, List.length_set, hrl]; simp; omega, fun n hn => by
                dsimp only at hn
                rcases List.mem_append.1 hn with hn | hn
                · rcases List.mem_or_eq_of_mem_set hn with hn | hn
                  · exact hlt _ (hrot.2 _ hn)
                  · subst hn; omega
                · simp only [List.mem_singleton] at hn; subst hn; omega, by dsimp only; rw [set0_law (by omega) (by omega)]; exact hrot.1⟩ (by repeat (first | exact trivial | refine ⟨rfl, ?_⟩)) (by dsimp only; rw [enI_app, List.length_append, List.length_set]; repeat (first | exact SubL.nil | (apply SubL.cons; (repeat (first | exact At.here | apply At.there))) | exact SubL.refl _ | apply SubL.skip))
            | exact ctn ⟨_, _, rotTo p.lots t p.lots.length⟩ ⟨by dsimp only; omega, fun n hn => hlt _ (hrot.2 _ hn), hrot.1⟩ (by repeat (first | exact trivial | refine ⟨rfl, ?_⟩)) (by repeat (first | exact SubL.nil | (apply SubL.cons; (repeat (first | exact At.here | apply At.there))) | exact SubL.refl _ | apply SubL.skip))
      rintro ⟨LA, Lc, L⟩ ⟨hL1, hL2, hL3⟩
      dsimp only at hL1 hL2 hL3 ⊢
      have hD := drw_lots hb hL1 hL2 hL3
      refine sq (h := ?_)
      refine rg (h := ?_)
      refine WL.y (hy := (by first | exact ldA | exact ldEA)) (h := ?_)
      refine cl (hc := fun w hS => C_dr_Draw { p with lots := L } ⟨x1.pA, LA, x1.pc, Lc⟩ hz0 w ⟨hS.get (by repeat (first | exact Rds.own | apply Rds.there)), hS.get (by repeat (first | exact Rds.own | apply Rds.there)), hpn, by show L.length ≤ _; omega, hx1⟩) (h := fun x2 _ => ?_)
      rw [hD]
      refine WL.y (hy := mv) (h := ?_)
      refine WL.y (hy := ex) (h := ?_)
      refine WL.y (hy := ex) (h := ?_)
      refine WL.y (hy := asg) (h := ?_)
      refine WL.y (hy := asg) (h := ?_)
      refine nl (h := ?_)
      refine q_seq (h := ?_)
      refine sq (h := ?_)
      refine rg (h := ?_)
      refine WL.y (hy := mv) (h := ?_)
      refine WL.y (hy := mv) (h := ?_)
      refine WL.y (hy := (Yd.tr (eql) (by simp))) (h := ?_)
      refine WL.y (hy := mv) (h := ?_)
      refine un (h := ?_)
      refine WL.y (hy := mv) (h := ?_)
      refine un (h := ?_)
      refine WL.y (hy := mv) (h := ?_)
      refine un (h := ?_)
      refine cl0 (hc := fun w hS => C_sameInts (drwP p).1 (drwP p).1 x0.1 x2.1 (drwP p).1.length x0.2 (drwP p).1.length x2.2 w (hS.get (by repeat (first | exact Rds.own | apply Rds.there))) (hS.get (by repeat (first | exact Rds.own | apply Rds.there))) (by omega)) (h := ?_)
      rw [decide_eq_true rfl]
      refine WL.y (hy := (by first | exact pkT | exact pkF)) (h := ?_)
      refine WL.y (hy := mv) (h := ?_)
      refine un (h := ?_)
      refine cl0 (hc := fun w hS => C_law06_works w) (h := ?_)
      refine WL.y (hy := (by first | exact pkT | exact pkF)) (h := ?_)
      refine WL.y (hy := asg) (h := ?_)
      refine nl (h := ?_)
      refine q_seq (h := ?_)
      refine rtn (h := ?_)
      refine q_ret (hR := ?_)
      exact fun w hS => ⟨by first | rfl | simp [resV], hS.sub (by repeat (first | exact SubL.nil | (apply SubL.cons; (repeat (first | exact At.here | apply At.there))) | exact SubL.refl _ | apply SubL.skip))⟩
end Go.Proofs.Ytjkoaifjmcgpfaa
