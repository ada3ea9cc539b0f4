/- Walks of score: sets, Ways. -/
import Derived.Test.YtacaojifempclaaS7
namespace Go.Proofs.Ytacaojifempclaa
open Go Go.RowKit

def tPos (t : Tb) : Prop := ∀ e ∈ t, 1 ≤ e.2.1
theorem tPos_get {t : Tb} (h : tPos t) {p : Pr} (hp : (tget t p).isSome = true) : 1 ≤ (tat t p).1 := by
  unfold tat
  induction t with
  | nil => simp [tget] at hp
  | cons e t ih =>
    rw [tget] at hp ⊢
    by_cases hpe : p = e.1
    · rw [if_pos hpe]; exact h e (by simp)
    · rw [if_neg hpe] at hp ⊢; exact ih (fun x hx => h x (by simp [hx])) hp
theorem tPos_put {t : Tb} (h : tPos t) (p : Pr) (v : Stn) (hv : 1 ≤ v.1) : tPos (tput t p v) := by
  induction t with
  | nil => intro e he; simp only [tput, List.mem_singleton] at he; subst he; exact hv
  | cons e t ih =>
    intro x hx
    rw [tput] at hx
    split at hx
    · rcases List.mem_cons.1 hx with rfl | hx
      · exact hv
      · exact h x (by simp [hx])
    · rcases List.mem_cons.1 hx with rfl | hx
      · exact h _ (by simp)
      · exact ih (fun x hx => h x (by simp [hx])) x hx
theorem tPos_side {f : Fmt} {s p : Pr} {now : Stn} {t : Tb} (ho : tOk t) (h : tPos t) (hn : 1 ≤ now.1 ∧ now.1 ≤ 1000000000001) : ∀ k, tPos (sideTo f s p now t k)
  | 0 => h
  | k + 1 => by
    have ih := tPos_side (f := f) (s := s) (p := p) ho h hn k
    have ha := tOk_at (tOk_side (f := f) (s := s) (p := p) ho (now := now) (by omega) k) (addV p k)
    exact tPos_put ih _ _ (by simp only [newS]; omega)
theorem tPos_pair {f : Fmt} {s p : Pr} {t : Tb} (ho : tOk t) (h : tPos t) : tPos (pairT f s p t) := by
  unfold pairT
  cases hb : !(tget t p).isSome || (tat t p).2
  · simp only [Bool.or_eq_false_iff, Bool.not_eq_false'] at hb
    exact tPos_side ho h ⟨tPos_get h hb.1, (tOk_at ho p).2⟩ 2
  · exact h
theorem tPos_row {f : Fmt} {s : Pr} {all : Nat} {t : Tb} (ho : tOk t) (h : tPos t) : ∀ j, tPos (rowTo f s all t j)
  | 0 => h
  | j + 1 => tPos_pair (tOk_row ho j) (tPos_row ho h j)
theorem tPos_tbl (f : Fmt) (s : Pr) : ∀ k, tPos (tblTo f s k)
  | 0 => fun e he => by simp only [tblTo, List.mem_singleton] at he; subst he; decide
  | k + 1 => tPos_row (tOk_tbl f s k) (tPos_tbl f s k) _

def overV (f : Fmt) (won : Pr) : Bool := decide (max won.1 won.2 = f.sets)
/-- Sets that are over: the sets that both sides have won, in how many orders of games, and whether they arise. -/
structure SR where
  (won : Pr) (ord : Int) (ok : Bool)
def setSide (p : Pr) : Int := bif decide (p.1 < p.2) then 1 else 0
def setStep (tb : Pr → Tb) (f : Fmt) (r : SR) (p : Pr) : SR :=
  bif !(tget (tb (setV f r.won)) p).isSome || !(tat (tb (setV f r.won)) p).2 || overV f r.won then ⟨r.won, 0, false⟩
  else ⟨addV r.won (setSide p), bif decide (1000000000001 / r.ord < (tat (tb (setV f r.won)) p).1) then 1000000000001 else r.ord * (tat (tb (setV f r.won)) p).1, true⟩
def setsTo (tb : Pr → Tb) (f : Fmt) (l : List Pr) : Nat → SR
  | 0 => ⟨(0, 0), 1, true⟩
  | k + 1 => match l[k]? with
    | some p => bif (setsTo tb f l k).ok then setStep tb f (setsTo tb f l k) p else setsTo tb f l k
    | none => setsTo tb f l k
def setsV (f : Fmt) (l : List Pr) : SR := setsTo (tableV f) f l l.length
theorem setsTo_succ {tb : Pr → Tb} {f : Fmt} {l : List Pr} {k : Nat} {p : Pr} (hp : l[k]? = some p) (ho : (setsTo tb f l k).ok = true) : setsTo tb f l (k + 1) = setStep tb f (setsTo tb f l k) p := by rw [setsTo, hp]; simp only [ho, cond_true]
theorem setsTo_stop {tb : Pr → Tb} {f : Fmt} {l : List Pr} {j : Nat} (h : (setsTo tb f l j).ok = false) : ∀ {k : Nat}, j ≤ k → setsTo tb f l k = setsTo tb f l j
  | 0, hk => by obtain rfl : j = 0 := by omega
                rfl
  | k + 1, hk => by
    by_cases e : j = k + 1
    · subst e; rfl
    · have ih := setsTo_stop h (k := k) (by omega)
      rw [setsTo, ih]
      cases l[k]? with
      | none => rfl
      | some p => simp only [h, cond_false]
structure SZ where
  (k : Nat) (won : Pr) (ord : Int)

theorem C_rules_over (f : Fmt) (won : Pr) (w : World) : C0 Try.prog 44 [f.val, pv won] w (.bool (overV f won)) := by
  refine ⟨en Try.func44 Try.ntmps44 (St.init w) (h := fun F => ?_)⟩
  refine sq (h := ?_)
  refine rg (h := ?_)
  refine bxA (h := fun b0 => ?_)
  refine bxA (h := fun b1 => ?_)
  refine WL.y (hy := asg) (h := ?_)
  refine nl (h := ?_)
  refine q_seq (h := ?_)
  refine sq (h := ?_)
  refine rg (h := ?_)
  refine WL.y (hy := (by first | exact fa | exact faE)) (h := ?_)
  refine WL.y (hy := (by first | exact ld | exact ldE)) (h := ?_)
  refine WL.y (hy := (by first | exact fa | exact faE)) (h := ?_)
  refine WL.y (hy := (by first | exact ld | exact ldE)) (h := ?_)
  refine WL.y (hy := maxI) (h := ?_)
  refine WL.y (hy := (by first | exact fa | exact faE)) (h := ?_)
  refine WL.y (hy := (by first | exact fa | exact faE)) (h := ?_)
  refine WL.y (hy := (by first | exact ld | exact ldE)) (h := ?_)
  refine WL.y (hy := eql) (h := ?_)
  refine WL.y (hy := asg) (h := ?_)
  refine nl (h := ?_)
  refine q_seq (h := ?_)
  refine rtn (h := ?_)
  refine q_ret (hR := ?_)
  exact fun w hS => ⟨rfl, hS.sub (by repeat (first | exact SubL.nil | (apply SubL.cons; (repeat (first | exact At.here | apply At.there))) | exact SubL.refl _ | apply SubL.skip))⟩

set_option maxRecDepth 100000 in
set_option maxHeartbeats 1000000 in
theorem C_rules_sets' (tb : Pr → Tb) (f : Fmt) (l : List Pr) (hb1 : ∀ s, tOk (tb s)) (hb2 : ∀ s, tPos (tb s)) (hb3 : ∀ (s : Pr) (w : World), CR Try.prog 84 [f.val, pv s] w (fun x : Nat × Array MapEntry × Nat => MapIs x.2.1 (encT (tb s))) (fun x => .map (some x.1)) (fun x => [.obj x.1 (.map x.2.1 x.2.2)])) (hf : f.Ok) (A : Option Addr) (n c : Nat) (w : World) (h : Rd w A 2 n (encP l)) (hn : n ≤ 1000) :
    C0 Try.prog 76 [f.val, .slice A n c] w (.tuple #[pv (setsTo tb f l l.length).won, .int .i64 (setsTo tb f l l.length).ord, .bool (setsTo tb f l l.length).ok]) := by
  have hlen : l.length = n := by have := h.len; simpa [encP] using this
  refine ⟨en Try.func76 Try.ntmps76 ((St.init w).share (e := .ro A 2 n (encP l)) h rfl rfl rfl) (h := fun F => ?_)⟩
  refine sq (h := ?_)
  refine rg (h := ?_)
  refine bxA (h := fun b0 => ?_)
  refine al (h := fun b1 => ?_)
  refine WL.y (hy := asg) (h := ?_)
  refine WL.y (hy := asg) (h := ?_)
  refine nl (h := ?_)
  refine q_seq (h := ?_)
  refine sq (h := ?_)
  refine rg (h := ?_)
  refine WL.y (hy := asg) (h := ?_)
  refine nl (h := ?_)
  refine q_seq (h := ?_)
  refine sq (h := ?_)
  refine sq (h := ?_)
  refine rg (h := ?_)
  refine WL.y (hy := mv) (h := ?_)
  refine WL.y (hy := lenS) (h := ?_)
  refine WL.y (hy := mv) (h := ?_)
  refine nl (h := ?_)
  refine q_seq (h := ?_)
  refine bk (h := ?_)
  refine lp (X := SZ) (I := fun z => z.k ≤ n ∧ setsTo tb f l z.k = ⟨z.won, z.ord, true⟩ ∧ (1 ≤ z.ord ∧ z.ord ≤ 1000000000001) ∧ ((0 ≤ z.won.1 ∧ z.won.1 ≤ (z.k : Int)) ∧ 0 ≤ z.won.2 ∧ z.won.2 ≤ (z.k : Int))) (le := fun z => [(2, .pointer (some ⟨b0, 0, none⟩)), (4, .pointer (some ⟨b1, 0, none⟩)), (5, .int .i64 z.ord), (12, .slice A n c), (13, .int .i64 n), (14, .int .i64 z.k)]) (Le := fun z => [.blk b0 80 f.cells, .blk b1 26 [.int .i64 z.won.1, .int .i64 z.won.2], .ro A 2 n (encP l)]) (μ := fun z => n - z.k) ⟨0, (0, 0), 1⟩ ⟨Nat.zero_le _, rfl, by dsimp only; omega, by simp⟩ (by repeat (first | exact trivial | refine ⟨rfl, ?_⟩)) (by repeat (first | exact SubL.nil | (apply SubL.cons; (repeat (first | exact At.here | apply At.there))) | exact SubL.refl _ | apply SubL.skip)) (fun z hz => ?_)
  obtain ⟨hzk, hzr, hzo, hzw⟩ := hz
  refine sq (h := ?_)
  refine rg (h := ?_)
  refine WL.y (hy := lss) (h := ?_)
  refine nl (h := ?_)
  refine q_seq (h := ?_)
  refine sq (h := ?_)
  refine cd (by exact rfl) (fun h0 => ?_) (fun h0 => ?_)
  · skip
    have hkn : z.k < n := by simp only [decide_eq_true_eq] at h0; omega
    obtain ⟨p, hp⟩ : ∃ p, l[z.k]? = some p := ⟨_, List.getElem?_eq_getElem (by omega)⟩
    have hpe := encP_at hp
    have hstep := setsTo_succ (tb := tb) (f := f) hp (by rw [hzr])
    rw [hzr] at hstep
    have hto := tOk_at (hb1 (setV f z.won)) p
    have hSw : Sm z.won := sm_of hzw (by omega)
    refine skp (h := ?_)
    refine q_seq (h := ?_)
    refine sq (h := ?_)
    refine bk (h := ?_)
    refine sq (h := ?_)
    refine rg (h := ?_)
    refine WL.y (hy := ix (hb := by omega)) (h := ?_)
    refine WL.y (hy := ldEW (k := z.k) (hk := hpe)) (h := ?_)
    refine al (h := fun b2 => ?_)
    first | refine stA (h := ?_) | refine stEA (h := ?_)
    refine nl (h := ?_)
    refine q_seq (h := ?_)
    refine ct (X := Nat) (fun _ => True) (fun x => [(2, .pointer (some ⟨b0, 0, none⟩)), (4, .pointer (some ⟨b1, 0, none⟩)), (8, .pointer (some ⟨b2, 0, none⟩)), (5, .int .i64 z.ord), (12, .slice A n c), (13, .int .i64 n), (14, .int .i64 z.k), (9, .pointer (some ⟨x, 0, none⟩)), (10, .bool (tget (tb (setV f z.won)) p).isSome)]) (fun x => [.blk x 140 [.int .i64 (tat (tb (setV f z.won)) p).1, .bool (tat (tb (setV f z.won)) p).2], .blk b0 80 f.cells, .blk b1 26 [.int .i64 z.won.1, .int .i64 z.won.2], .blk b2 26 [.int .i64 p.1, .int .i64 p.2], .ro A 2 n (encP l)]) (h1 := ?_) (h2 := ?_)
    · skip
      refine rgD (by kernel_rfl) [(1000000, .blk b0 80 f.cells), (1000000, .blk b1 26 [.int .i64 z.won.1, .int .i64 z.won.2]), (1000000, .blk b2 26 [.int .i64 p.1, .int .i64 p.2])] (by repeat (first | exact HS.nil | (apply HS.keep; (repeat (first | exact At.here | apply At.there))) | (apply HS.ro; (repeat (first | exact Rds.ro | exact Rds.own | apply Rds.there))))) (h := ?_)
      refine tk 0 (hy := (by first | exact ldA | exact ldEA)) (h := ?_)
      refine tk 1 (hy := (by first | exact ldA | exact ldEA)) (h := ?_)
      refine tk 2 (hy := (by first | exact ldA | exact ldEA)) (h := ?_)
      refine tk 5 (hy := (by first | exact ldA | exact ldEA)) (h := ?_)
      refine two 3 10 (h1 := ?_) (h2 := ?_)
      · skip
        refine cl0 (hc := fun w hS => C_rules_set _ _ (by assumption) w) (h := ?_)
        refine nx (h := ?_)
        refine two 4 10 (h1 := ?_) (h2 := ?_)
        · skip
          refine cl (hc := fun w hS => hb3 (setV f z.won) w) (h := fun xt hxt => ?_)
          refine nx (h := ?_)
          refine two 6 10 (h1 := ?_) (h2 := ?_)
          · skip
            refine WL.y (hy := lkC (kv := encT (tb (setV f z.won))) (hm := hxt) (hs := encT_shape _)) (h := ?_)
            rw [lkp_enc (p := p), getD_tat, isSome_enc]
            refine nx (h := ?_)
            refine tk 7 (hy := mv) (h := ?_)
            refine tk 8 (hy := ex) (h := ?_)
            refine tk 9 (hy := ex) (h := ?_)
            refine one 10 (h := ?_)
            refine al (h := fun b3 => ?_)
            refine nx (h := ?_)
            refine one 11 (h := ?_)
            first | refine stA (h := ?_) | refine stEA (h := ?_)
            refine nx (h := ?_)
            refine tk 12 (hy := asg) (h := ?_)
            refine dn (h := ?_)
            exact ctn _ trivial (by repeat (first | exact trivial | refine ⟨rfl, ?_⟩)) (by repeat (first | exact SubL.nil | (apply SubL.cons; (repeat (first | exact At.here | apply At.there))) | exact SubL.refl _ | apply SubL.skip))
          · skip
            refine al (h := fun b4 => ?_)
            refine nx (h := ?_)
            refine one 6 (h := ?_)
            refine WL.y (hy := lkC (kv := encT (tb (setV f z.won))) (hm := hxt) (hs := encT_shape _)) (h := ?_)
            rw [lkp_enc (p := p), getD_tat, isSome_enc]
            refine nx (h := ?_)
            refine tk 7 (hy := mv) (h := ?_)
            refine tk 8 (hy := ex) (h := ?_)
            refine tk 9 (hy := ex) (h := ?_)
            refine one 11 (h := ?_)
            first | refine stA (h := ?_) | refine stEA (h := ?_)
            refine nx (h := ?_)
            refine tk 12 (hy := asg) (h := ?_)
            refine dn (h := ?_)
            exact ctn _ trivial (by repeat (first | exact trivial | refine ⟨rfl, ?_⟩)) (by repeat (first | exact SubL.nil | (apply SubL.cons; (repeat (first | exact At.here | apply At.there))) | exact SubL.refl _ | apply SubL.skip))
        · skip
          refine al (h := fun b5 => ?_)
          refine nx (h := ?_)
          refine one 4 (h := ?_)
          refine cl (hc := fun w hS => hb3 (setV f z.won) w) (h := fun xt hxt => ?_)
          refine nx (h := ?_)
          refine one 6 (h := ?_)
          refine WL.y (hy := lkC (kv := encT (tb (setV f z.won))) (hm := hxt) (hs := encT_shape _)) (h := ?_)
          rw [lkp_enc (p := p), getD_tat, isSome_enc]
          refine nx (h := ?_)
          refine tk 7 (hy := mv) (h := ?_)
          refine tk 8 (hy := ex) (h := ?_)
          refine tk 9 (hy := ex) (h := ?_)
          refine one 11 (h := ?_)
          first | refine stA (h := ?_) | refine stEA (h := ?_)
          refine nx (h := ?_)
          refine tk 12 (hy := asg) (h := ?_)
          refine dn (h := ?_)
          exact ctn _ trivial (by repeat (first | exact trivial | refine ⟨rfl, ?_⟩)) (by repeat (first | exact SubL.nil | (apply SubL.cons; (repeat (first | exact At.here | apply At.there))) | exact SubL.refl _ | apply SubL.skip))
      · skip
        refine al (h := fun b6 => ?_)
        refine nx (h := ?_)
        refine one 3 (h := ?_)
        refine cl0 (hc := fun w hS => C_rules_set _ _ (by assumption) w) (h := ?_)
        refine nx (h := ?_)
        refine one 4 (h := ?_)
        refine cl (hc := fun w hS => hb3 (setV f z.won) w) (h := fun xt hxt => ?_)
        refine nx (h := ?_)
        refine one 6 (h := ?_)
        refine WL.y (hy := lkC (kv := encT (tb (setV f z.won))) (hm := hxt) (hs := encT_shape _)) (h := ?_)
        rw [lkp_enc (p := p), getD_tat, isSome_enc]
        refine nx (h := ?_)
        refine tk 7 (hy := mv) (h := ?_)
        refine tk 8 (hy := ex) (h := ?_)
        refine tk 9 (hy := ex) (h := ?_)
        refine one 11 (h := ?_)
        first | refine stA (h := ?_) | refine stEA (h := ?_)
        refine nx (h := ?_)
        refine tk 12 (hy := asg) (h := ?_)
        refine dn (h := ?_)
        exact ctn _ trivial (by repeat (first | exact trivial | refine ⟨rfl, ?_⟩)) (by repeat (first | exact SubL.nil | (apply SubL.cons; (repeat (first | exact At.here | apply At.there))) | exact SubL.refl _ | apply SubL.skip))
    rintro x9 -
    refine sq (h := ?_)
    refine sq (h := ?_)
    refine rg (h := ?_)
    refine WL.y (hy := mv) (h := ?_)
    refine WL.y (hy := notB) (h := ?_)
    refine WL.y (hy := mv) (h := ?_)
    apply brOr 4 30 34 (by exact rfl)
    · intro hb1
      refine un (h := ?_)
      refine WL.y (hy := (by first | exact fa | exact faE)) (h := ?_)
      refine un (h := ?_)
      refine WL.y (hy := (by first | exact ld | exact ldE)) (h := ?_)
      refine un (h := ?_)
      refine WL.y (hy := notB) (h := ?_)
      refine WL.y (hy := (by first | exact pkT | exact pkF)) (h := ?_)
      exact mg (by repeat (first | exact trivial | refine ⟨rfl, ?_⟩ | refine ⟨by rw [hb1]; rfl, ?_⟩)) (by repeat (first | exact SubL.nil | (apply SubL.cons; (repeat (first | exact At.here | apply At.there))) | exact SubL.refl _ | apply SubL.skip))
    · intro hb1
      repeat (first | refine un (h := ?_) | refine sk (h := ?_) | refine WL.y (hy := pkF) (h := ?_) | refine WL.y (hy := pkT) (h := ?_))
      exact mg (by repeat (first | exact trivial | refine ⟨rfl, ?_⟩ | refine ⟨by rw [hb1]; rfl, ?_⟩)) (by repeat (first | exact SubL.nil | (apply SubL.cons; (repeat (first | exact At.here | apply At.there))) | exact SubL.refl _ | apply SubL.skip))
    refine WL.y (hy := mv) (h := ?_)
    apply brOr 4 35 39 (by exact rfl)
    · intro hb2
      refine un (h := ?_)
      refine WL.y (hy := (by first | exact ldA | exact ldEA)) (h := ?_)
      refine un (h := ?_)
      refine WL.y (hy := (by first | exact ldA | exact ldEA)) (h := ?_)
      refine un (h := ?_)
      refine cl0 (hc := fun w hS => C_rules_over _ _ w) (h := ?_)
      refine WL.y (hy := (by first | exact pkT | exact pkF)) (h := ?_)
      exact mg (by repeat (first | exact trivial | refine ⟨rfl, ?_⟩ | refine ⟨by rw [hb2]; rfl, ?_⟩)) (by repeat (first | exact SubL.nil | (apply SubL.cons; (repeat (first | exact At.here | apply At.there))) | exact SubL.refl _ | apply SubL.skip))
    · intro hb2
      repeat (first | refine un (h := ?_) | refine sk (h := ?_) | refine WL.y (hy := pkF) (h := ?_) | refine WL.y (hy := pkT) (h := ?_))
      exact mg (by repeat (first | exact trivial | refine ⟨rfl, ?_⟩ | refine ⟨by rw [hb2]; rfl, ?_⟩)) (by repeat (first | exact SubL.nil | (apply SubL.cons; (repeat (first | exact At.here | apply At.there))) | exact SubL.refl _ | apply SubL.skip))
    refine nl (h := ?_)
    refine q_seq (h := ?_)
    refine cd (by exact rfl) (fun h3 => ?_) (fun h3 => ?_)
    · skip
      have hfin : setsTo tb f l l.length = ⟨z.won, 0, false⟩ := by
        have h' : (!(tget (tb (setV f z.won)) p).isSome || !(tat (tb (setV f z.won)) p).2 || overV f z.won) = true := h3
        have hs : setsTo tb f l (z.k + 1) = ⟨z.won, 0, false⟩ := by rw [hstep, setStep]; dsimp only; rw [h']; rfl
        rw [setsTo_stop (j := z.k + 1) (by rw [hs]) (by omega), hs]
      refine sq (h := ?_)
      refine rg (h := ?_)
      refine WL.y (hy := (by first | exact ldA | exact ldEA)) (h := ?_)
      first | refine stA (h := ?_) | refine stEA (h := ?_)
      refine WL.y (hy := asg) (h := ?_)
      refine WL.y (hy := asg) (h := ?_)
      refine nl (h := ?_)
      refine q_seq (h := ?_)
      refine rtn (h := ?_)
      refine q_then_ret (h := ?_)
      refine q_blk_ret (h := ?_)
      refine q_then_ret (h := ?_)
      refine q_then_ret (h := ?_)
      refine q_blk_ret (h := ?_)
      refine q_then_ret (h := ?_)
      refine q_ret (hR := ?_)
      rw [hfin]
      exact fun w hS => ⟨rfl, hS.sub (by repeat (first | exact SubL.nil | (apply SubL.cons; (repeat (first | exact At.here | apply At.there))) | exact SubL.refl _ | apply SubL.skip))⟩
    · skip
      have h' : (!(tget (tb (setV f z.won)) p).isSome || !(tat (tb (setV f z.won)) p).2 || overV f z.won) = false := h3
      have hsome : (tget (tb (setV f z.won)) p).isSome = true := by simp only [Bool.or_eq_false_iff, Bool.not_eq_false'] at h'; exact h'.1.1
      have hpos : 1 ≤ (tat (tb (setV f z.won)) p).1 := tPos_get (hb2 _) hsome
      refine skp (h := ?_)
      refine q_seq (h := ?_)
      refine sq (h := ?_)
      refine sq (h := ?_)
      refine rgD0 (by kernel_rfl) (h := ?_)
      refine tk 0 (hy := (by first | exact fa | exact faE)) (h := ?_)
      refine tk 1 (hy := (by first | exact ld | exact ldE)) (h := ?_)
      refine tk 2 (hy := mv) (h := ?_)
      refine tk 3 (hy := quoI) (h := ?_)
      refine tk 4 (hy := gtr) (h := ?_)
      refine dn (h := ?_)
      refine q_seq (h := ?_)
      refine cd (by exact rfl) (fun h4 => ?_) (fun h4 => ?_)
      · skip
        have hord : (bif decide (1000000000001 / z.ord < (tat (tb (setV f z.won)) p).1) then 1000000000001 else z.ord * (tat (tb (setV f z.won)) p).1) = 1000000000001 := by rw [h4]; rfl
        have hob : (1 : Int) ≤ 1000000000001 ∧ (1000000000001 : Int) ≤ 1000000000001 := by omega
        refine rg (h := ?_)
        refine WL.y (hy := asg) (h := ?_)
        refine nl (h := ?_)
        refine q_seq (h := ?_)
        refine sq (h := ?_)
        refine rg (h := ?_)
        refine WL.y (hy := asg) (h := ?_)
        refine nl (h := ?_)
        refine q_seq (h := ?_)
        refine sq (h := ?_)
        refine sq (h := ?_)
        refine rg (h := ?_)
        refine WL.y (hy := (by first | exact fa | exact faE)) (h := ?_)
        refine WL.y (hy := (by first | exact ld | exact ldE)) (h := ?_)
        refine WL.y (hy := (by first | exact fa | exact faE)) (h := ?_)
        refine WL.y (hy := (by first | exact ld | exact ldE)) (h := ?_)
        refine WL.y (hy := gtr) (h := ?_)
        refine nl (h := ?_)
        refine q_seq (h := ?_)
        refine cd (by exact rfl) (fun h5 => ?_) (fun h5 => ?_)
        · skip
          have hsd : setSide p = 1 := by rw [setSide, h5]; rfl
          refine rg (h := ?_)
          refine WL.y (hy := asg) (h := ?_)
          refine nl (h := ?_)
          refine q_seq (h := ?_)
          refine rg (h := ?_)
          refine WL.y (hy := (by first | exact ldA | exact ldEA)) (h := ?_)
          refine WL.y (hy := mv) (h := ?_)
          refine cl0 (hc := fun w hS => C_score_add _ _ (by assumption) w) (h := ?_)
          first | refine stA (h := ?_) | refine stEA (h := ?_)
          refine nl (h := ?_)
          refine q_blk_norm (h := ?_)
          refine q_seq (h := ?_)
          refine rg (h := ?_)
          refine WL.y (hy := addI) (h := ?_)
          refine WL.y (hy := mv) (h := ?_)
          refine nl (h := ?_)
          refine rn (x := z) ⟨z.k + 1, addV z.won (setSide p), _⟩ ⟨by dsimp only; omega, by rw [hstep, setStep]; dsimp only; rw [h', hord]; rfl, hob, by have := addV_bd (side := setSide p) hzw; simpa using this⟩ (by dsimp only; omega) (by repeat (first | exact trivial | refine ⟨rfl, ?_⟩)) (by (try dsimp only); rw [hsd]; repeat (first | exact SubL.nil | (apply SubL.cons; (repeat (first | exact At.here | apply At.there)))))
        · skip
          have hsd : setSide p = 0 := by rw [setSide, h5]; rfl
          refine skp (h := ?_)
          refine q_seq (h := ?_)
          refine rg (h := ?_)
          refine WL.y (hy := (by first | exact ldA | exact ldEA)) (h := ?_)
          refine WL.y (hy := mv) (h := ?_)
          refine cl0 (hc := fun w hS => C_score_add _ _ (by assumption) w) (h := ?_)
          first | refine stA (h := ?_) | refine stEA (h := ?_)
          refine nl (h := ?_)
          refine q_blk_norm (h := ?_)
          refine q_seq (h := ?_)
          refine rg (h := ?_)
          refine WL.y (hy := addI) (h := ?_)
          refine WL.y (hy := mv) (h := ?_)
          refine nl (h := ?_)
          refine rn (x := z) ⟨z.k + 1, addV z.won (setSide p), _⟩ ⟨by dsimp only; omega, by rw [hstep, setStep]; dsimp only; rw [h', hord]; rfl, hob, by have := addV_bd (side := setSide p) hzw; simpa using this⟩ (by dsimp only; omega) (by repeat (first | exact trivial | refine ⟨rfl, ?_⟩)) (by (try dsimp only); rw [hsd]; repeat (first | exact SubL.nil | (apply SubL.cons; (repeat (first | exact At.here | apply At.there)))))
      · skip
        have hord : (bif decide (1000000000001 / z.ord < (tat (tb (setV f z.won)) p).1) then 1000000000001 else z.ord * (tat (tb (setV f z.won)) p).1) = z.ord * (tat (tb (setV f z.won)) p).1 := by rw [h4]; rfl
        have hob : 1 ≤ z.ord * (tat (tb (setV f z.won)) p).1 ∧ z.ord * (tat (tb (setV f z.won)) p).1 ≤ 1000000000001 := by
          have h1 : (tat (tb (setV f z.won)) p).1 ≤ 1000000000001 / z.ord := by simpa using h4
          have h2 := (Int.le_ediv_iff_mul_le (by omega : (0 : Int) < z.ord)).1 h1
          rw [Int.mul_comm] at h2
          exact ⟨Int.mul_pos (by omega) (by omega), h2⟩
        refine rg (h := ?_)
        refine WL.y (hy := mv) (h := ?_)
        refine WL.y (hy := (by first | exact fa | exact faE)) (h := ?_)
        refine WL.y (hy := (by first | exact ld | exact ldE)) (h := ?_)
        refine WL.y (hy := mulI) (h := ?_)
        refine WL.y (hy := asg) (h := ?_)
        refine nl (h := ?_)
        refine q_seq (h := ?_)
        refine sq (h := ?_)
        refine rg (h := ?_)
        refine WL.y (hy := asg) (h := ?_)
        refine nl (h := ?_)
        refine q_seq (h := ?_)
        refine sq (h := ?_)
        refine sq (h := ?_)
        refine rg (h := ?_)
        refine WL.y (hy := (by first | exact fa | exact faE)) (h := ?_)
        refine WL.y (hy := (by first | exact ld | exact ldE)) (h := ?_)
        refine WL.y (hy := (by first | exact fa | exact faE)) (h := ?_)
        refine WL.y (hy := (by first | exact ld | exact ldE)) (h := ?_)
        refine WL.y (hy := gtr) (h := ?_)
        refine nl (h := ?_)
        refine q_seq (h := ?_)
        refine cd (by exact rfl) (fun h6 => ?_) (fun h6 => ?_)
        · skip
          have hsd : setSide p = 1 := by rw [setSide, h6]; rfl
          refine rg (h := ?_)
          refine WL.y (hy := asg) (h := ?_)
          refine nl (h := ?_)
          refine q_seq (h := ?_)
          refine rg (h := ?_)
          refine WL.y (hy := (by first | exact ldA | exact ldEA)) (h := ?_)
          refine WL.y (hy := mv) (h := ?_)
          refine cl0 (hc := fun w hS => C_score_add _ _ (by assumption) w) (h := ?_)
          first | refine stA (h := ?_) | refine stEA (h := ?_)
          refine nl (h := ?_)
          refine q_blk_norm (h := ?_)
          refine q_seq (h := ?_)
          refine rg (h := ?_)
          refine WL.y (hy := addI) (h := ?_)
          refine WL.y (hy := mv) (h := ?_)
          refine nl (h := ?_)
          refine rn (x := z) ⟨z.k + 1, addV z.won (setSide p), _⟩ ⟨by dsimp only; omega, by rw [hstep, setStep]; dsimp only; rw [h', hord]; rfl, hob, by have := addV_bd (side := setSide p) hzw; simpa using this⟩ (by dsimp only; omega) (by repeat (first | exact trivial | refine ⟨rfl, ?_⟩)) (by (try dsimp only); rw [hsd]; repeat (first | exact SubL.nil | (apply SubL.cons; (repeat (first | exact At.here | apply At.there)))))
        · skip
          have hsd : setSide p = 0 := by rw [setSide, h6]; rfl
          refine skp (h := ?_)
          refine q_seq (h := ?_)
          refine rg (h := ?_)
          refine WL.y (hy := (by first | exact ldA | exact ldEA)) (h := ?_)
          refine WL.y (hy := mv) (h := ?_)
          refine cl0 (hc := fun w hS => C_score_add _ _ (by assumption) w) (h := ?_)
          first | refine stA (h := ?_) | refine stEA (h := ?_)
          refine nl (h := ?_)
          refine q_blk_norm (h := ?_)
          refine q_seq (h := ?_)
          refine rg (h := ?_)
          refine WL.y (hy := addI) (h := ?_)
          refine WL.y (hy := mv) (h := ?_)
          refine nl (h := ?_)
          refine rn (x := z) ⟨z.k + 1, addV z.won (setSide p), _⟩ ⟨by dsimp only; omega, by rw [hstep, setStep]; dsimp only; rw [h', hord]; rfl, hob, by have := addV_bd (side := setSide p) hzw; simpa using this⟩ (by dsimp only; omega) (by repeat (first | exact trivial | refine ⟨rfl, ?_⟩)) (by (try dsimp only); rw [hsd]; repeat (first | exact SubL.nil | (apply SubL.cons; (repeat (first | exact At.here | apply At.there)))))
  · skip
    have hkn : z.k = n := by simp only [decide_eq_false_iff_not] at h0; omega
    have hfin : setsTo tb f l l.length = ⟨z.won, z.ord, true⟩ := by rw [hlen, ← hkn]; exact hzr
    refine et (h := ?_)
    refine q_then_exit (h := ?_)
    refine q_then_exit (h := ?_)
    refine q_blk_hit (h := ?_)
    refine q_seq (h := ?_)
    refine sq (h := ?_)
    refine rg (h := ?_)
    refine WL.y (hy := (by first | exact ldA | exact ldEA)) (h := ?_)
    refine WL.y (hy := mv) (h := ?_)
    first | refine stA (h := ?_) | refine stEA (h := ?_)
    refine WL.y (hy := asg) (h := ?_)
    refine WL.y (hy := asg) (h := ?_)
    refine nl (h := ?_)
    refine q_seq (h := ?_)
    refine rtn (h := ?_)
    refine q_ret (hR := ?_)
    rw [hfin]
    exact fun w hS => ⟨rfl, hS.sub (by repeat (first | exact SubL.nil | (apply SubL.cons; (repeat (first | exact At.here | apply At.there))) | exact SubL.refl _ | apply SubL.skip))⟩
theorem tOk_table (f : Fmt) (s : Pr) : tOk (tableV f s) := tOk_tbl f s 82
theorem tPos_table (f : Fmt) (s : Pr) : tPos (tableV f s) := tPos_tbl f s 82
theorem C_rules_sets (f : Fmt) (l : List Pr) (hf : f.Ok) (A : Option Addr) (n c : Nat) (w : World) (h : Rd w A 2 n (encP l)) (hn : n ≤ 1000) :
    C0 Try.prog 76 [f.val, .slice A n c] w (.tuple #[pv (setsV f l).won, .int .i64 (setsV f l).ord, .bool (setsV f l).ok]) :=
  C_rules_sets' (tableV f) f l (tOk_table f) (tPos_table f) (C_rules_table f) hf A n c w h hn
end Go.Proofs.Ytacaojifempclaa
