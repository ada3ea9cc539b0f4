/- Walks of score: sameBoard, the law's Example, works. -/
import Derived.Test.YtacaojifempclaaSD
namespace Go.Proofs.Ytacaojifempclaa
open Go Go.RowKit

instance : DecidableEq Brd := fun a b => by
  cases a; cases b
  simp only [Brd.mk.injEq]
  infer_instance
theorem pr_list {p q : Pr} : ([p.1, p.2] = [q.1, q.2]) ↔ p = q := by
  simp only [List.cons.injEq, and_true]
  exact ⟨fun ⟨a, b⟩ => Prod.ext a b, fun h => by rw [h]; exact ⟨rfl, rfl⟩⟩
theorem C_sameBoard (a b : Brd) (A B : Option Addr) (n c m d : Nat) (w : World) (h : Rd w A 2 n (encP a.st)) (h' : Rd w B 2 m (encP b.st)) (hn : n ≤ 9223372036854775807) (hm : m ≤ 9223372036854775807) :
    C0 Try.prog 15 [a.val A n c, b.val B m d] w (.bool (decide (a = b))) := by
  have hla : a.st.length = n := by have := h.len; simpa [encP] using this
  have hlb : b.st.length = m := by have := h'.len; simpa [encP] using this
  refine ⟨en Try.func15 Try.ntmps15 (((St.init w).share (e := .ro A 2 n (encP a.st)) h rfl rfl rfl).share (e := .ro B 2 m (encP b.st)) h' rfl rfl rfl) (h := fun F => ?_)⟩
  refine sq (h := ?_)
  refine rg (h := ?_)
  refine bxA (h := fun b0 => ?_)
  refine bxA (h := fun b1 => ?_)
  refine WL.y (hy := asg) (h := ?_)
  refine nl (h := ?_)
  refine q_seq (h := ?_)
  refine sq (h := ?_)
  refine sq (h := ?_)
  refine rg (h := ?_)
  refine WL.y (hy := (by first | exact fa | exact faE)) (h := ?_)
  refine WL.y (hy := (by first | exact ld | exact ldE)) (h := ?_)
  refine WL.y (hy := lenS) (h := ?_)
  refine WL.y (hy := (by first | exact fa | exact faE)) (h := ?_)
  refine WL.y (hy := (by first | exact ld | exact ldE)) (h := ?_)
  refine WL.y (hy := lenS) (h := ?_)
  refine WL.y (hy := neq) (h := ?_)
  refine WL.y (hy := mv) (h := ?_)
  apply brOr 6 13 19 (by exact rfl)
  · intro hb0
    refine un (h := ?_)
    refine WL.y (hy := (by first | exact fa | exact faE)) (h := ?_)
    refine un (h := ?_)
    refine WL.y (hy := (by first | exact ldA | exact ldEA)) (h := ?_)
    refine un (h := ?_)
    refine WL.y (hy := (by first | exact fa | exact faE)) (h := ?_)
    refine un (h := ?_)
    refine WL.y (hy := (by first | exact ldA | exact ldEA)) (h := ?_)
    refine un (h := ?_)
    refine WL.y (hy := neqT) (h := ?_)
    refine WL.y (hy := (by first | exact pkT | exact pkF)) (h := ?_)
    exact mg (by repeat (first | exact trivial | refine ⟨rfl, ?_⟩ | refine ⟨by rw [hb0]; rfl, ?_⟩)) (by repeat (first | exact SubL.nil | (apply SubL.cons; (repeat (first | exact At.here | apply At.there))) | exact SubL.refl _ | apply SubL.skip))
  · intro hb0
    repeat (first | refine un (h := ?_) | refine sk (h := ?_) | refine WL.y (hy := pkF) (h := ?_) | refine WL.y (hy := pkT) (h := ?_))
    exact mg (by repeat (first | exact trivial | refine ⟨rfl, ?_⟩ | refine ⟨by rw [hb0]; rfl, ?_⟩)) (by repeat (first | exact SubL.nil | (apply SubL.cons; (repeat (first | exact At.here | apply At.there))) | exact SubL.refl _ | apply SubL.skip))
  refine WL.y (hy := mv) (h := ?_)
  apply brOr 6 20 26 (by exact rfl)
  · intro hb1
    refine un (h := ?_)
    refine WL.y (hy := (by first | exact fa | exact faE)) (h := ?_)
    refine un (h := ?_)
    refine WL.y (hy := (by first | exact ldA | exact ldEA)) (h := ?_)
    refine un (h := ?_)
    refine WL.y (hy := (by first | exact fa | exact faE)) (h := ?_)
    refine un (h := ?_)
    refine WL.y (hy := (by first | exact ldA | exact ldEA)) (h := ?_)
    refine un (h := ?_)
    refine WL.y (hy := neqT) (h := ?_)
    refine WL.y (hy := (by first | exact pkT | exact pkF)) (h := ?_)
    exact mg (by repeat (first | exact trivial | refine ⟨rfl, ?_⟩ | refine ⟨by rw [hb1]; rfl, ?_⟩)) (by repeat (first | exact SubL.nil | (apply SubL.cons; (repeat (first | exact At.here | apply At.there))) | exact SubL.refl _ | apply SubL.skip))
  · intro hb1
    repeat (first | refine un (h := ?_) | refine sk (h := ?_) | refine WL.y (hy := pkF) (h := ?_) | refine WL.y (hy := pkT) (h := ?_))
    exact mg (by repeat (first | exact trivial | refine ⟨rfl, ?_⟩ | refine ⟨by rw [hb1]; rfl, ?_⟩)) (by repeat (first | exact SubL.nil | (apply SubL.cons; (repeat (first | exact At.here | apply At.there))) | exact SubL.refl _ | apply SubL.skip))
  refine nl (h := ?_)
  refine q_seq (h := ?_)
  refine cd (by exact rfl) (fun h2 => ?_) (fun h2 => ?_)
  · skip
    have hne : ¬ a = b := fun e => by
      subst e
      simp at h2
      omega
    refine sq (h := ?_)
    refine rg (h := ?_)
    refine WL.y (hy := asg) (h := ?_)
    refine nl (h := ?_)
    refine q_seq (h := ?_)
    refine rtn (h := ?_)
    refine q_then_ret (h := ?_)
    refine q_ret (hR := ?_)
    first
      | exact fun w hS => ⟨by rw [decide_eq_false hne]; rfl, hS.sub (by repeat (first | exact SubL.nil | (apply SubL.cons; (repeat (first | exact At.here | apply At.there))) | exact SubL.refl _ | apply SubL.skip))⟩
      | exact fun w hS => ⟨by rw [decide_eq_true heq]; rfl, hS.sub (by repeat (first | exact SubL.nil | (apply SubL.cons; (repeat (first | exact At.here | apply At.there))) | exact SubL.refl _ | apply SubL.skip))⟩
  · skip
    obtain ⟨⟨e1, e2⟩, e3⟩ : (n = m ∧ a.g = b.g) ∧ a.p = b.p := by
      simp only [Bool.or_eq_false_iff, Bool.not_eq_false', decide_eq_true_eq] at h2
      obtain ⟨⟨h1, h2⟩, h3⟩ := h2
      exact ⟨⟨by omega, pr_list.1 h2⟩, pr_list.1 h3⟩
    refine skp (h := ?_)
    refine q_seq (h := ?_)
    refine sq (h := ?_)
    refine sq (h := ?_)
    refine rg (h := ?_)
    refine WL.y (hy := asg) (h := ?_)
    refine nl (h := ?_)
    refine q_seq (h := ?_)
    refine bk (h := ?_)
    refine lp (X := Nat) (I := fun k => k ≤ n ∧ a.st.take k = b.st.take k) (le := fun k => [(2, .pointer (some ⟨b0, 0, none⟩)), (3, .pointer (some ⟨b1, 0, none⟩)), (5, .int .i64 k)]) (Le := fun _ => [.blk b0 28 (a.cells A n c), .blk b1 28 (b.cells B m d), .ro A 2 n (encP a.st), .ro B 2 m (encP b.st)]) (μ := fun k => n - k) 0 ⟨Nat.zero_le _, rfl⟩ (by repeat (first | exact trivial | refine ⟨rfl, ?_⟩)) (by repeat (first | exact SubL.nil | (apply SubL.cons; (repeat (first | exact At.here | apply At.there))) | exact SubL.refl _ | apply SubL.skip)) (fun k hk => ?_)
    obtain ⟨hk, htk⟩ := hk
    refine sq (h := ?_)
    refine sq (h := ?_)
    refine rg (h := ?_)
    refine WL.y (hy := mv) (h := ?_)
    refine WL.y (hy := (by first | exact fa | exact faE)) (h := ?_)
    refine WL.y (hy := (by first | exact ld | exact ldE)) (h := ?_)
    refine WL.y (hy := lenS) (h := ?_)
    refine WL.y (hy := lss) (h := ?_)
    refine nl (h := ?_)
    refine q_seq (h := ?_)
    refine cd (by exact rfl) (fun h3 => ?_) (fun h3 => ?_)
    · skip
      have hkn : k < n := by simp only [decide_eq_true_eq] at h3; omega
      obtain ⟨p, hp⟩ : ∃ p, a.st[k]? = some p := ⟨_, List.getElem?_eq_getElem (by omega)⟩
      obtain ⟨q, hq⟩ : ∃ q, b.st[k]? = some q := ⟨_, List.getElem?_eq_getElem (by omega)⟩
      have hpe := encP_at hp
      have hqe := encP_at hq
      refine skp (h := ?_)
      refine q_seq (h := ?_)
      refine sq (h := ?_)
      refine bk (h := ?_)
      refine sq (h := ?_)
      refine rgD0 (by kernel_rfl) (h := ?_)
      refine tk 0 (hy := (by first | exact fa | exact faE)) (h := ?_)
      refine tk 1 (hy := (by first | exact ld | exact ldE)) (h := ?_)
      refine tk 2 (hy := mv) (h := ?_)
      refine tk 3 (hy := ix (A := A) (m := n)) (h := ?_)
      refine tk 4 (hy := ldEA (A := A) (hk := hpe)) (h := ?_)
      refine tk 5 (hy := (by first | exact fa | exact faE)) (h := ?_)
      refine tk 6 (hy := (by first | exact ld | exact ldE)) (h := ?_)
      refine tk 7 (hy := mv) (h := ?_)
      refine tk 8 (hy := ix (A := B) (m := m)) (h := ?_)
      refine tk 9 (hy := ldEA (A := B) (hk := hqe)) (h := ?_)
      refine tk 10 (hy := neqT) (h := ?_)
      refine dn (h := ?_)
      refine q_seq (h := ?_)
      refine cd (by exact rfl) (fun h4 => ?_) (fun h4 => ?_)
      · skip
        have hne : ¬ a = b := fun e => by
          subst e
          rw [hp] at hq
          injection hq with hq
          subst hq
          simp at h4
        refine sq (h := ?_)
        refine rg (h := ?_)
        refine WL.y (hy := asg) (h := ?_)
        refine nl (h := ?_)
        refine q_seq (h := ?_)
        refine rtn (h := ?_)
        refine q_blk_ret (h := ?_)
        refine q_then_ret (h := ?_)
        refine q_then_ret (h := ?_)
        refine q_blk_ret (h := ?_)
        refine q_then_ret (h := ?_)
        refine q_ret (hR := ?_)
        first
          | exact fun w hS => ⟨by rw [decide_eq_false hne]; rfl, hS.sub (by repeat (first | exact SubL.nil | (apply SubL.cons; (repeat (first | exact At.here | apply At.there))) | exact SubL.refl _ | apply SubL.skip))⟩
          | exact fun w hS => ⟨by rw [decide_eq_true heq]; rfl, hS.sub (by repeat (first | exact SubL.nil | (apply SubL.cons; (repeat (first | exact At.here | apply At.there))) | exact SubL.refl _ | apply SubL.skip))⟩
      · skip
        have hpq : p = q := by
          have : [p.1, p.2] = [q.1, q.2] := by simpa using h4
          exact pr_list.1 this
        refine skp (h := ?_)
        refine q_blk_norm (h := ?_)
        refine q_seq (h := ?_)
        refine rg (h := ?_)
        refine WL.y (hy := mv) (h := ?_)
        refine WL.y (hy := addI) (h := ?_)
        refine WL.y (hy := asg) (h := ?_)
        refine nl (h := ?_)
        refine rn (x := k) (k + 1) ⟨by omega, by rw [List.take_add_one, List.take_add_one, hp, hq, htk, hpq]⟩ (by omega) (by repeat (first | exact trivial | refine ⟨rfl, ?_⟩)) (by repeat (first | exact SubL.nil | (apply SubL.cons; (repeat (first | exact At.here | apply At.there))) | exact SubL.refl _ | apply SubL.skip))
    · skip
      have hkn : k = n := by simp only [decide_eq_false_iff_not] at h3; omega
      have heq : a = b := by
        have h1 : a.st = b.st := by rw [List.take_of_length_le (by omega), List.take_of_length_le (by omega)] at htk; exact htk
        cases a; cases b; simp only at *; subst h1 e2 e3; rfl
      refine et (h := ?_)
      refine q_then_exit (h := ?_)
      refine q_then_exit (h := ?_)
      refine q_blk_hit (h := ?_)
      refine q_seq (h := ?_)
      refine sq (h := ?_)
      refine rg (h := ?_)
      refine WL.y (hy := asg) (h := ?_)
      refine nl (h := ?_)
      refine q_seq (h := ?_)
      refine rtn (h := ?_)
      refine q_ret (hR := ?_)
      first
        | exact fun w hS => ⟨by rw [decide_eq_false hne]; rfl, hS.sub (by repeat (first | exact SubL.nil | (apply SubL.cons; (repeat (first | exact At.here | apply At.there))) | exact SubL.refl _ | apply SubL.skip))⟩
        | exact fun w hS => ⟨by rw [decide_eq_true heq]; rfl, hS.sub (by repeat (first | exact SubL.nil | (apply SubL.cons; (repeat (first | exact At.here | apply At.there))) | exact SubL.refl _ | apply SubL.skip))⟩

def exF : Fmt := ⟨2, 2, false, 2, 3, 0, 4, 2, 2, false⟩
def exP : List Int := [0, 0, 0, 0, 1, 1, 1, 1, 0, 0, 0, 0, 0, 0, 0, 0, 1, 1, 1, 1]
theorem C_law1_Example (w : World) : CR Try.prog 35 [] w (fun _ : Option Addr × Nat => True) (fun x => .tuple #[exF.val, .slice x.1 20 x.2]) (fun x => [.own x.1 x.2 3 1 20 (encI exP)]) := by
  refine ⟨en Try.func35 Try.ntmps35 (St.init w) (h := fun F => ?_)⟩
  refine sq (h := ?_)
  refine rg (h := ?_)
  refine al (h := fun b0 => ?_)
  refine WL.y (hy := asg) (h := ?_)
  refine nl (h := ?_)
  refine q_seq (h := ?_)
  refine sq (h := ?_)
  refine rg (h := ?_)
  refine WL.y (hy := bd) (h := ?_)
  refine al (h := fun b1 => ?_)
  first | refine stA (h := ?_) | refine stEA (h := ?_)
  refine nl (h := ?_)
  refine q_seq (h := ?_)
  refine sq (h := ?_)
  refine rg (h := ?_)
  refine WL.y (hy := (by first | exact ldA | exact ldEA)) (h := ?_)
  refine bs (h := fun b2 => ?_)
  first | refine stA (h := ?_) | refine stEA (h := ?_)
  refine WL.y (hy := asg) (h := ?_)
  refine nl (h := ?_)
  refine q_seq (h := ?_)
  refine rtn (h := ?_)
  refine q_ret (hR := ?_)
  exact fun w hS => ⟨(_, _), trivial, rfl, hS.sub (by repeat (first | exact SubL.nil | (apply SubL.cons; (repeat (first | exact At.here | apply At.there))) | exact SubL.refl _ | apply SubL.skip))⟩
theorem ex_play : scO (playO exF 0 exP) = ⟨[(3, 1)], (0, 1), (0, 0), 1, 3, 2, -1⟩ := by kernel_rfl
theorem ex_playE : playE exF 0 exP = 0 := by kernel_rfl

/-! #### a table that does not change any more -/
def Stable (t : Tb) (k : Int) : Prop := ∀ e ∈ t, k ≤ e.1.1 + e.1.2 → e.2.2 = true
theorem tget_mem {t : Tb} {p : Pr} {v : Stn} (h : tget t p = some v) : (p, v) ∈ t := by
  induction t with
  | nil => simp [tget] at h
  | cons e t ih =>
    rw [tget] at h
    split at h
    · next hp => injection h with h; subst hp h; exact List.mem_cons_self
    · exact List.mem_cons_of_mem _ (ih h)
theorem pair_stable {f : Fmt} {s p : Pr} {t : Tb} {k : Int} (h : Stable t k) (hp : k ≤ p.1 + p.2) : pairT f s p t = t := by
  unfold pairT
  cases hg : tget t p with
  | none => rfl
  | some v =>
    have hv := h _ (tget_mem hg) hp
    simp only at hv
    have : tat t p = v := by rw [tat, hg]; rfl
    rw [this, hv]; simp
theorem row_stable {f : Fmt} {s : Pr} {t : Tb} {k : Int} (h : Stable t k) {all : Nat} (ha : k ≤ all) : ∀ j, rowTo f s all t j = t
  | 0 => rfl
  | j + 1 => by rw [rowTo, row_stable h ha j]; exact pair_stable h (by dsimp only; omega)
theorem tbl_stable {f : Fmt} {s : Pr} {k0 : Nat} (h : Stable (tblTo f s k0) k0) : ∀ k, k0 ≤ k → tblTo f s k = tblTo f s k0
  | 0, hk => by obtain rfl : k0 = 0 := by omega
                rfl
  | k + 1, hk => by
    by_cases e : k0 = k + 1
    · subst e; rfl
    · have ih := tbl_stable h k (by omega)
      rw [tblTo, ih]
      exact row_stable h (by omega) _
def exT : Tb := [((0, 0), (1, false)), ((1, 0), (1, false)), ((0, 1), (1, false)), ((1, 1), (2, false)), ((0, 2), (1, true)), ((2, 0), (1, true)), ((2, 1), (2, false)), ((1, 2), (2, false)), ((2, 2), (4, false)), ((1, 3), (2, true)), ((3, 1), (2, true)), ((3, 2), (4, true)), ((2, 3), (4, true))]
theorem ex_table6 : tblTo exF (2, 3) 6 = exT := by kernel_rfl
theorem ex_table : tableV exF (2, 3) = exT := by
  have h : Stable (tblTo exF (2, 3) 6) ((6 : Nat) : Int) := by
    rw [ex_table6]; unfold Stable exT; decide
  rw [tableV, tbl_stable h 82 (by omega), ex_table6]
theorem ex_sets : setsV exF [(2, 3)] = ⟨(0, 1), 4, true⟩ := by
  have h0 : setsTo (tableV exF) exF [(2, 3)] 0 = ⟨(0, 0), 1, true⟩ := rfl
  have h1 : setsTo (tableV exF) exF [(2, 3)] (0 + 1) = setStep (tableV exF) exF (setsTo (tableV exF) exF [(2, 3)] 0) (2, 3) := setsTo_succ rfl (by rw [h0])
  have h2 : setV exF (0, 0) = (2, 3) := by decide
  show setsTo (tableV exF) exF [(2, 3)] (0 + 1) = _
  rw [h1, h0, setStep]
  dsimp only
  rw [h2, ex_table]
  kernel_rfl
theorem ex_ways : waysR exF [(2, 3)] = [.int .i64 4, .int .i64 0] := by
  rw [waysR, ex_sets]
  kernel_rfl
theorem ex_lst : (leastF exF 0 300 (0, 0) (0, 0) (0, 0) (mostV exF) []).1 = 16 := by kernel_rfl
theorem ex_arises : arisesV exF ⟨[], (0, 0), (0, 0)⟩ = ((0, 0), true) := by
  have h0 : setsTo (tableV exF) exF (Brd.mk [] (0, 0) (0, 0)).st (Brd.mk [] (0, 0) (0, 0)).st.length = ⟨(0, 0), 1, true⟩ := rfl
  have h2 : setV exF (0, 0) = (2, 3) := by decide
  rw [arisesV, arisesT, h0]
  dsimp only
  rw [h2, ex_table]
  exact (by kernel_rfl : (arisesT (fun _ => exT) exF ⟨[], (0, 0), (0, 0)⟩ = ((0, 0), true)))
theorem ex_least : leastR exF ⟨[], (0, 0), (0, 0)⟩ 0 = [.int .i64 16, .int .i64 0] := by
  have hv : leastV exF ⟨[], (0, 0), (0, 0)⟩ 0 = 16 := by
    rw [leastV, ex_arises]
    exact ex_lst
  rw [leastR, ex_arises, hv]
  rfl

theorem C_law1_works (w : World) : C0 Try.prog 10 [] w (.bool true) := by
  refine ⟨en Try.func10 Try.ntmps10 (St.init w) (h := fun F => ?_)⟩
  refine sq (h := ?_)
  refine rg (h := ?_)
  refine WL.y (hy := asg) (h := ?_)
  refine nl (h := ?_)
  refine q_seq (h := ?_)
  refine sq (h := ?_)
  refine rg (h := ?_)
  refine cl (hc := fun w hS => C_law1_Example w) (h := fun x0 _ => ?_)
  refine WL.y (hy := mv) (h := ?_)
  refine WL.y (hy := ex) (h := ?_)
  refine WL.y (hy := ex) (h := ?_)
  refine al (h := fun b0 => ?_)
  first | refine stA (h := ?_) | refine stEA (h := ?_)
  refine WL.y (hy := asg) (h := ?_)
  refine nl (h := ?_)
  refine q_seq (h := ?_)
  refine sq (h := ?_)
  refine rg (h := ?_)
  refine WL.y (hy := (by first | exact ldA | exact ldEA)) (h := ?_)
  refine WL.y (hy := mv) (h := ?_)
  refine cl (hc := fun w hS => C_score_Play exF 0 exP x0.1 20 x0.2 w (hS.get (by repeat (first | exact Rds.ro | exact Rds.own | apply Rds.there))) (by omega)) (h := fun x1 _ => ?_)
  rw [ex_play, ex_playE]
  dsimp only [Sc.val]
  refine WL.y (hy := mv) (h := ?_)
  refine WL.y (hy := ex) (h := ?_)
  refine WL.y (hy := ex) (h := ?_)
  refine al (h := fun b1 => ?_)
  first | refine stA (h := ?_) | refine stEA (h := ?_)
  refine WL.y (hy := asg) (h := ?_)
  refine nl (h := ?_)
  refine q_seq (h := ?_)
  refine sq (h := ?_)
  refine rg (h := ?_)
  refine WL.y (hy := (by first | exact ldA | exact ldEA)) (h := ?_)
  refine WL.y (hy := bd) (h := ?_)
  refine bs (h := fun b2 => ?_)
  refine cl0 (hc := fun w hS => C_score_Ways exF [(2, 3)] _ 1 _ w (hS.get (by repeat (first | exact Rds.own | apply Rds.there))) (by omega)) (h := ?_)
  rw [ex_ways]
  refine WL.y (hy := mv) (h := ?_)
  refine WL.y (hy := ex) (h := ?_)
  refine WL.y (hy := ex) (h := ?_)
  refine WL.y (hy := asg) (h := ?_)
  refine WL.y (hy := asg) (h := ?_)
  refine nl (h := ?_)
  refine q_seq (h := ?_)
  refine sq (h := ?_)
  refine rg (h := ?_)
  refine WL.y (hy := (by first | exact ldA | exact ldEA)) (h := ?_)
  refine WL.y (hy := bd) (h := ?_)
  refine cl0 (hc := fun w hS => C_score_Least exF ⟨[], (0, 0), (0, 0)⟩ 0 none 0 0 w (Rd.nil _ _ _) (by omega)) (h := ?_)
  rw [ex_least]
  refine WL.y (hy := mv) (h := ?_)
  refine WL.y (hy := ex) (h := ?_)
  refine WL.y (hy := ex) (h := ?_)
  refine WL.y (hy := asg) (h := ?_)
  refine WL.y (hy := asg) (h := ?_)
  refine nl (h := ?_)
  refine q_seq (h := ?_)
  refine sq (h := ?_)
  refine rg (h := ?_)
  refine WL.y (hy := mv) (h := ?_)
  refine WL.y (hy := eql) (h := ?_)
  refine WL.y (hy := mv) (h := ?_)
  apply brAnd 3 34 37 (by exact rfl)
  · intro hb0
    refine un (h := ?_)
    refine WL.y (hy := mv) (h := ?_)
    refine un (h := ?_)
    refine WL.y (hy := eql) (h := ?_)
    refine WL.y (hy := (by first | exact pkT | exact pkF)) (h := ?_)
    exact mg (by repeat (first | exact trivial | refine ⟨rfl, ?_⟩ | refine ⟨by rw [hb0]; rfl, ?_⟩)) (by repeat (first | exact SubL.nil | (apply SubL.cons; (repeat (first | exact At.here | apply At.there))) | exact SubL.refl _ | apply SubL.skip))
  · intro hb0
    repeat (first | refine un (h := ?_) | refine sk (h := ?_) | refine WL.y (hy := pkF) (h := ?_) | refine WL.y (hy := pkT) (h := ?_))
    exact mg (by repeat (first | exact trivial | refine ⟨rfl, ?_⟩ | refine ⟨by rw [hb0]; rfl, ?_⟩)) (by repeat (first | exact SubL.nil | (apply SubL.cons; (repeat (first | exact At.here | apply At.there))) | exact SubL.refl _ | apply SubL.skip))
  refine WL.y (hy := mv) (h := ?_)
  apply brAnd 3 38 41 (by exact rfl)
  · intro hb1
    refine un (h := ?_)
    refine WL.y (hy := mv) (h := ?_)
    refine un (h := ?_)
    refine WL.y (hy := eql) (h := ?_)
    refine WL.y (hy := (by first | exact pkT | exact pkF)) (h := ?_)
    exact mg (by repeat (first | exact trivial | refine ⟨rfl, ?_⟩ | refine ⟨by rw [hb1]; rfl, ?_⟩)) (by repeat (first | exact SubL.nil | (apply SubL.cons; (repeat (first | exact At.here | apply At.there))) | exact SubL.refl _ | apply SubL.skip))
  · intro hb1
    repeat (first | refine un (h := ?_) | refine sk (h := ?_) | refine WL.y (hy := pkF) (h := ?_) | refine WL.y (hy := pkT) (h := ?_))
    exact mg (by repeat (first | exact trivial | refine ⟨rfl, ?_⟩ | refine ⟨by rw [hb1]; rfl, ?_⟩)) (by repeat (first | exact SubL.nil | (apply SubL.cons; (repeat (first | exact At.here | apply At.there))) | exact SubL.refl _ | apply SubL.skip))
  refine WL.y (hy := mv) (h := ?_)
  apply brAnd 3 42 45 (by exact rfl)
  · intro hb2
    refine un (h := ?_)
    refine WL.y (hy := mv) (h := ?_)
    refine un (h := ?_)
    refine WL.y (hy := eql) (h := ?_)
    refine WL.y (hy := (by first | exact pkT | exact pkF)) (h := ?_)
    exact mg (by repeat (first | exact trivial | refine ⟨rfl, ?_⟩ | refine ⟨by rw [hb2]; rfl, ?_⟩)) (by repeat (first | exact SubL.nil | (apply SubL.cons; (repeat (first | exact At.here | apply At.there))) | exact SubL.refl _ | apply SubL.skip))
  · intro hb2
    repeat (first | refine un (h := ?_) | refine sk (h := ?_) | refine WL.y (hy := pkF) (h := ?_) | refine WL.y (hy := pkT) (h := ?_))
    exact mg (by repeat (first | exact trivial | refine ⟨rfl, ?_⟩ | refine ⟨by rw [hb2]; rfl, ?_⟩)) (by repeat (first | exact SubL.nil | (apply SubL.cons; (repeat (first | exact At.here | apply At.there))) | exact SubL.refl _ | apply SubL.skip))
  refine WL.y (hy := mv) (h := ?_)
  apply brAnd 3 46 49 (by exact rfl)
  · intro hb3
    refine un (h := ?_)
    refine WL.y (hy := mv) (h := ?_)
    refine un (h := ?_)
    refine WL.y (hy := eql) (h := ?_)
    refine WL.y (hy := (by first | exact pkT | exact pkF)) (h := ?_)
    exact mg (by repeat (first | exact trivial | refine ⟨rfl, ?_⟩ | refine ⟨by rw [hb3]; rfl, ?_⟩)) (by repeat (first | exact SubL.nil | (apply SubL.cons; (repeat (first | exact At.here | apply At.there))) | exact SubL.refl _ | apply SubL.skip))
  · intro hb3
    repeat (first | refine un (h := ?_) | refine sk (h := ?_) | refine WL.y (hy := pkF) (h := ?_) | refine WL.y (hy := pkT) (h := ?_))
    exact mg (by repeat (first | exact trivial | refine ⟨rfl, ?_⟩ | refine ⟨by rw [hb3]; rfl, ?_⟩)) (by repeat (first | exact SubL.nil | (apply SubL.cons; (repeat (first | exact At.here | apply At.there))) | exact SubL.refl _ | apply SubL.skip))
  refine WL.y (hy := mv) (h := ?_)
  apply brAnd 4 50 54 (by exact rfl)
  · intro hb4
    refine un (h := ?_)
    refine WL.y (hy := (by first | exact fa | exact faE)) (h := ?_)
    refine un (h := ?_)
    refine WL.y (hy := (by first | exact ld | exact ldE)) (h := ?_)
    refine un (h := ?_)
    refine WL.y (hy := eql) (h := ?_)
    refine WL.y (hy := (by first | exact pkT | exact pkF)) (h := ?_)
    exact mg (by repeat (first | exact trivial | refine ⟨rfl, ?_⟩ | refine ⟨by rw [hb4]; rfl, ?_⟩)) (by repeat (first | exact SubL.nil | (apply SubL.cons; (repeat (first | exact At.here | apply At.there))) | exact SubL.refl _ | apply SubL.skip))
  · intro hb4
    repeat (first | refine un (h := ?_) | refine sk (h := ?_) | refine WL.y (hy := pkF) (h := ?_) | refine WL.y (hy := pkT) (h := ?_))
    exact mg (by repeat (first | exact trivial | refine ⟨rfl, ?_⟩ | refine ⟨by rw [hb4]; rfl, ?_⟩)) (by repeat (first | exact SubL.nil | (apply SubL.cons; (repeat (first | exact At.here | apply At.there))) | exact SubL.refl _ | apply SubL.skip))
  refine WL.y (hy := mv) (h := ?_)
  apply brAnd 4 55 59 (by exact rfl)
  · intro hb5
    refine un (h := ?_)
    refine WL.y (hy := (by first | exact fa | exact faE)) (h := ?_)
    refine un (h := ?_)
    refine WL.y (hy := (by first | exact ld | exact ldE)) (h := ?_)
    refine un (h := ?_)
    refine WL.y (hy := eql) (h := ?_)
    refine WL.y (hy := (by first | exact pkT | exact pkF)) (h := ?_)
    exact mg (by repeat (first | exact trivial | refine ⟨rfl, ?_⟩ | refine ⟨by rw [hb5]; rfl, ?_⟩)) (by repeat (first | exact SubL.nil | (apply SubL.cons; (repeat (first | exact At.here | apply At.there))) | exact SubL.refl _ | apply SubL.skip))
  · intro hb5
    repeat (first | refine un (h := ?_) | refine sk (h := ?_) | refine WL.y (hy := pkF) (h := ?_) | refine WL.y (hy := pkT) (h := ?_))
    exact mg (by repeat (first | exact trivial | refine ⟨rfl, ?_⟩ | refine ⟨by rw [hb5]; rfl, ?_⟩)) (by repeat (first | exact SubL.nil | (apply SubL.cons; (repeat (first | exact At.here | apply At.there))) | exact SubL.refl _ | apply SubL.skip))
  refine WL.y (hy := mv) (h := ?_)
  apply brAnd 4 60 64 (by exact rfl)
  · intro hb6
    refine un (h := ?_)
    refine WL.y (hy := (by first | exact fa | exact faE)) (h := ?_)
    refine un (h := ?_)
    refine WL.y (hy := (by first | exact ld | exact ldE)) (h := ?_)
    refine un (h := ?_)
    refine WL.y (hy := eql) (h := ?_)
    refine WL.y (hy := (by first | exact pkT | exact pkF)) (h := ?_)
    exact mg (by repeat (first | exact trivial | refine ⟨rfl, ?_⟩ | refine ⟨by rw [hb6]; rfl, ?_⟩)) (by repeat (first | exact SubL.nil | (apply SubL.cons; (repeat (first | exact At.here | apply At.there))) | exact SubL.refl _ | apply SubL.skip))
  · intro hb6
    repeat (first | refine un (h := ?_) | refine sk (h := ?_) | refine WL.y (hy := pkF) (h := ?_) | refine WL.y (hy := pkT) (h := ?_))
    exact mg (by repeat (first | exact trivial | refine ⟨rfl, ?_⟩ | refine ⟨by rw [hb6]; rfl, ?_⟩)) (by repeat (first | exact SubL.nil | (apply SubL.cons; (repeat (first | exact At.here | apply At.there))) | exact SubL.refl _ | apply SubL.skip))
  refine WL.y (hy := mv) (h := ?_)
  apply brAnd 4 65 69 (by exact rfl)
  · intro hb7
    refine un (h := ?_)
    refine WL.y (hy := (by first | exact fa | exact faE)) (h := ?_)
    refine un (h := ?_)
    refine WL.y (hy := (by first | exact ld | exact ldE)) (h := ?_)
    refine un (h := ?_)
    refine WL.y (hy := eql) (h := ?_)
    refine WL.y (hy := (by first | exact pkT | exact pkF)) (h := ?_)
    exact mg (by repeat (first | exact trivial | refine ⟨rfl, ?_⟩ | refine ⟨by rw [hb7]; rfl, ?_⟩)) (by repeat (first | exact SubL.nil | (apply SubL.cons; (repeat (first | exact At.here | apply At.there))) | exact SubL.refl _ | apply SubL.skip))
  · intro hb7
    repeat (first | refine un (h := ?_) | refine sk (h := ?_) | refine WL.y (hy := pkF) (h := ?_) | refine WL.y (hy := pkT) (h := ?_))
    exact mg (by repeat (first | exact trivial | refine ⟨rfl, ?_⟩ | refine ⟨by rw [hb7]; rfl, ?_⟩)) (by repeat (first | exact SubL.nil | (apply SubL.cons; (repeat (first | exact At.here | apply At.there))) | exact SubL.refl _ | apply SubL.skip))
  refine WL.y (hy := mv) (h := ?_)
  apply brAnd 8 70 78 (by exact rfl)
  · intro hb8
    refine un (h := ?_)
    refine WL.y (hy := (by first | exact fa | exact faE)) (h := ?_)
    refine un (h := ?_)
    refine WL.y (hy := (by first | exact ldA | exact ldEA)) (h := ?_)
    refine un (h := ?_)
    refine WL.y (hy := bd) (h := ?_)
    refine un (h := ?_)
    refine bs (h := fun b3 => ?_)
    refine un (h := ?_)
    refine WL.y (hy := bd) (h := ?_)
    refine un (h := ?_)
    refine WL.y (hy := bd) (h := ?_)
    refine un (h := ?_)
    refine cl0 (hc := fun w hS => C_sameBoard ⟨[(3, 1)], (0, 1), (0, 0)⟩ ⟨[(3, 1)], (0, 1), (0, 0)⟩ _ _ 1 _ 1 _ w (hS.get (by repeat (first | exact Rds.own | apply Rds.there))) (hS.get (by repeat (first | exact Rds.own | apply Rds.there))) (by omega) (by omega)) (h := ?_)
    refine WL.y (hy := (by first | exact pkT | exact pkF)) (h := ?_)
    exact mg (by repeat (first | exact trivial | refine ⟨rfl, ?_⟩ | refine ⟨by rw [hb8]; rfl, ?_⟩)) (by repeat (first | exact SubL.nil | (apply SubL.cons; (repeat (first | exact At.here | apply At.there))) | exact SubL.refl _ | apply SubL.skip))
  · intro hb8
    repeat (first | refine un (h := ?_) | refine sk (h := ?_) | refine WL.y (hy := pkF) (h := ?_) | refine WL.y (hy := pkT) (h := ?_))
    exact mg (by repeat (first | exact trivial | refine ⟨rfl, ?_⟩ | refine ⟨by rw [hb8]; rfl, ?_⟩)) (by repeat (first | exact SubL.nil | (apply SubL.cons; (repeat (first | exact At.here | apply At.there))) | exact SubL.refl _ | apply SubL.skip))
  refine WL.y (hy := asg) (h := ?_)
  refine nl (h := ?_)
  refine q_seq (h := ?_)
  refine rtn (h := ?_)
  refine q_ret (hR := ?_)
  exact fun w hS => ⟨by first | rfl | simp [resV], hS.sub (by repeat (first | exact SubL.nil | (apply SubL.cons; (repeat (first | exact At.here | apply At.there))) | exact SubL.refl _ | apply SubL.skip))⟩
end Go.Proofs.Ytacaojifempclaa
