/- Walks of the reference of score: arises, Arises; Arises of the program. -/
import Derived.Test.YtacaojifempclaaUG
namespace Go.Proofs.Ytacaojifempclaa
open Go Go.RowKit

theorem Rd.pre {w : World} {A : Option Addr} {size m : Nat} {es : List (List Value)} (h : Rd w A size m es) (k : Nat) (hk : k ≤ m) : Rd w A size k (es.take k) := by
  have h1 := Rd.part h (m + 1) 0 k (Nat.zero_le _) hk (by omega)
  have e : (if m + 1 = 0 then A else A.map (·.add (0 * size))) = A := by
    rw [if_neg (by omega)]
    cases A <;> simp [Addr.add_zero']
  rw [e] at h1
  simpa using h1
theorem lead_none {p : Pr} {l b : Int} : leadsV p l b = -1 ↔ ¬ (l ≤ p.1 ∧ b ≤ p.1 - p.2) ∧ ¬ (l ≤ p.2 ∧ b ≤ p.2 - p.1) := by
  unfold leadsV
  cases h1 : decide (l ≤ p.1) && decide (b ≤ p.1 - p.2)
  · cases h2 : decide (l ≤ p.2) && decide (b ≤ p.2 - p.1)
    · simp at h1 h2 ⊢; omega
    · simp at h1 h2 ⊢; omega
  · simp at h1 ⊢; omega
theorem encP_take (l : List Pr) (k : Nat) : (encP l).take k = encP (l.take k) := by simp [encP, List.map_take]
theorem wonTo_take (l : List Pr) (K : Nat) : ∀ k, k ≤ K → wonTo (l.take K) k = wonTo l k
  | 0, _ => rfl
  | k + 1, hk => by rw [wonTo, wonTo, wonTo_take l K k (by omega), List.getElem?_take, if_pos (by omega)]
theorem wonV_take {l : List Pr} {K : Nat} (hK : K ≤ l.length) : wonV (l.take K) = wonTo l K := by
  unfold wonV
  rw [List.length_take, Nat.min_eq_left hK]
  exact wonTo_take l K K (Nat.le_refl _)
/-- The table of a set, told by a variable. -/
def TbOk (f : Fmt) (tb : Pr → Tb) : Prop := ∀ (s p : Pr), TieOk f s → p.1 ≤ 41 → p.2 ≤ 41 → flag (tb s) p = expT f s p.1 p.2
theorem tbOk_table (f : Fmt) : TbOk f (tableV f) := fun _ _ h h1 h2 => table_flag h h1 h2
section
variable {f : Fmt} {s : Pr}
theorem over_ne (h : TieOk f s) {a b : Int} (he : expT f s a b = some true) : a ≠ b := by
  unfold expT at he
  by_cases h0 : a = 0 ∧ b = 0
  · rw [if_pos h0] at he; cases he
  · rw [if_neg h0] at he
    by_cases h1 : OpenP f s (a - 1) b
    · rw [if_pos h1] at he
      have := (end0 f s (a - 1) b).1 (Option.some.inj he)
      unfold OpenP TieOk at *; omega
    · rw [if_neg h1] at he
      by_cases h2 : OpenP f s a (b - 1)
      · rw [if_pos h2] at he
        have := (end1 f s a (b - 1)).1 (Option.some.inj he)
        unfold OpenP TieOk at *; omega
      · rw [if_neg h2] at he; cases he
theorem pair_over (p : Pr) (t : Tb) : (!(tget t p).isSome || !(tat t p).2) = !decide (flag t p = some true) := by
  unfold flag tat
  cases tget t p with
  | none => rfl
  | some v =>
    obtain ⟨n, b⟩ := v
    cases b <;> simp
theorem side_ne {p : Pr} (h : p.1 ≠ p.2) : setSide p = wside p := by
  unfold setSide wside
  by_cases h1 : p.1 < p.2
  · rw [decide_eq_true h1, decide_eq_false (by omega)]; rfl
  · rw [decide_eq_false h1, decide_eq_true (by omega)]; rfl
theorem over_won {won : Pr} (h : WonOk f won) : overV f won = (decide (won.1 = f.sets) || decide (won.2 = f.sets)) := by
  unfold overV WonOk at *
  rw [Bool.eq_iff_iff, Bool.or_eq_true, decide_eq_true_eq, decide_eq_true_eq, decide_eq_true_eq]; omega
/-- A set that is over by the document is so by the program. -/
theorem step_is {tb : Pr → Tb} (htb : TbOk f tb) (hf : f.Ok) {l : List Pr} {k : Nat} {p : Pr} (hp : l[k]? = some p) (hpb : p.1 ≤ 40 ∧ p.2 ≤ 40) (ho : (setsTo tb f l k).ok = true) (hw : (setsTo tb f l k).won = wonTo l k) :
    (setsTo tb f l (k + 1)).ok = (!overV f (wonTo l k) && decide (expT f (setV f (wonTo l k)) p.1 p.2 = some true)) ∧ ((setsTo tb f l (k + 1)).ok = true → (setsTo tb f l (k + 1)).won = wonTo l (k + 1)) := by
  rw [setsTo_succ hp ho, setStep, hw, pair_over, htb _ _ (tie_ok hf _) (by omega) (by omega)]
  by_cases he : expT f (setV f (wonTo l k)) p.1 p.2 = some true
  · rw [decide_eq_true he]
    cases overV f (wonTo l k)
    · refine ⟨rfl, fun _ => ?_⟩
      show addV (wonTo l k) (setSide p) = _
      rw [side_ne (over_ne (tie_ok hf _) he), wonTo_succ hp]
    · exact ⟨rfl, fun e => by cases e⟩
  · rw [decide_eq_false he]
    cases overV f (wonTo l k)
    · exact ⟨rfl, fun e => by cases e⟩
    · exact ⟨rfl, fun e => by cases e⟩
theorem arises_no {tb : Pr → Tb} {b : Brd} {k : Nat} (h : (setsTo tb f b.st k).ok = false) (hk : k ≤ b.st.length) : (arisesT tb f b).2 = false := by
  have e : (setsTo tb f b.st b.st.length).ok = false := by rw [setsTo_stop h hk]; exact h
  unfold arisesT
  rw [e]; rfl
theorem arises_end {tb : Pr → Tb} {b : Brd} (h : (setsTo tb f b.st b.st.length).ok = true) (hw : (setsTo tb f b.st b.st.length).won = wonV b.st) (hov : overV f (wonV b.st) = true) : (arisesT tb f b).2 = (isZ b.g && isZ b.p) := by
  unfold arisesT
  rw [h, hw, hov]; rfl
/-- The points of a game in play. -/
theorem pts_is (f : Fmt) (s : Pr) (tie : Bool) (p : Pr) (hp : 0 ≤ p.1 ∧ 0 ≤ p.2) (hs : 1 ≤ s.2) : (isZ p || ((befV f s tie (p.1 - 1, p.2) || befV f s tie (p.1, p.2 - 1)) && befV f s tie p)) = arePts f tie s.2 p := by
  have hz : isZ p = decide (p.1 = 0 ∧ p.2 = 0) := by
    rw [Bool.eq_iff_iff, isZ_iff, decide_eq_true_eq]
    exact ⟨fun e => by rw [e]; exact ⟨rfl, rfl⟩, fun e => Prod.ext e.1 e.2⟩
  have hb : ∀ q : Pr, befV f s tie q = decide ((0 ≤ q.1 ∧ 0 ≤ q.2) ∧ ¬ (lst s tie ≤ q.1 ∧ byG f tie ≤ q.1 - q.2) ∧ ¬ (lst s tie ≤ q.2 ∧ byG f tie ≤ q.2 - q.1)) := fun q => by
    have hl := lead_none (p := q) (l := lst s tie) (b := byG f tie)
    have hr := leadsV_rng q (lst s tie) (byG f tie)
    unfold befV
    rw [game_is, Bool.eq_iff_iff, Bool.and_eq_true, decide_eq_true_eq, decide_eq_true_eq, decide_eq_true_eq]
    constructor
    · rintro ⟨h1, h2⟩
      exact ⟨by omega, hl.1 (by omega)⟩
    · rintro ⟨h1, h2⟩
      have := hl.2 h2
      exact ⟨by omega, by omega⟩
  rw [hz, hb, hb, hb, Bool.eq_iff_iff]
  unfold arePts lst byG
  cases tie
  · cases hn : f.noAd
    · simp only [Bool.not_false, Bool.true_and, cond_false, Bool.or_eq_true, Bool.and_eq_true, decide_eq_true_eq]; omega
    · simp only [Bool.not_false, Bool.true_and, cond_false, cond_true, Bool.or_eq_true, Bool.and_eq_true, decide_eq_true_eq]; omega
  · simp only [Bool.not_true, Bool.false_and, cond_false, cond_true, Bool.or_eq_true, Bool.and_eq_true, decide_eq_true_eq]; omega
theorem set_to1 (hf : f.Ok) (won : Pr) : 1 ≤ (setV f won).2 := by
  have h1 := hf.o0
  have h2 := hf.l0
  unfold setV
  cases decide (won.1 = f.sets - 1) && decide (won.2 = f.sets - 1) <;> simp only [cond_true, cond_false] <;> omega
theorem tied_is {l : List Pr} {g : Pr} (hg : 0 ≤ g.1) : tiedV f l g = brksV (setV f (wonV l)) g := by
  unfold tiedV brksV
  by_cases h : 0 ≤ (setV f (wonV l)).1
  · rw [decide_eq_true h, Bool.true_and]
  · rw [decide_eq_false h, decide_eq_false (show ¬ g.1 = (setV f (wonV l)).1 by omega)]; rfl
theorem arises_pts {tb : Pr → Tb} (htb : TbOk f tb) (hf : f.Ok) {b : Brd} (hg : (0 ≤ b.g.1 ∧ b.g.1 ≤ 40) ∧ 0 ≤ b.g.2 ∧ b.g.2 ≤ 40) (hp : 0 ≤ b.p.1 ∧ 0 ≤ b.p.2) (h : (setsTo tb f b.st b.st.length).ok = true) (hw : (setsTo tb f b.st b.st.length).won = wonV b.st) (hov : overV f (wonV b.st) = false) :
    (arisesT tb f b).2 = (decide (expT f (setV f (wonV b.st)) b.g.1 b.g.2 = some false) && arePts f (tiedV f b.st b.g) (setV f (wonV b.st)).2 b.p) := by
  rw [← pts_is f (setV f (wonV b.st)) _ b.p hp (set_to1 hf _), tied_is hg.1.1]
  unfold arisesT
  rw [h, hw, hov, pair_flag, htb _ _ (tie_ok hf _) (by omega) (by omega)]
  by_cases he : expT f (setV f (wonV b.st)) b.g.1 b.g.2 = some false
  · rw [decide_eq_true he]
    cases isZ b.p <;> rfl
  · rw [decide_eq_false he]; rfl
end
structure UHZ where
  (k : Nat)
set_option maxRecDepth 100000 in
set_option maxHeartbeats 4000000 in
theorem C_ref1_arises' (tb : Pr → Tb) (f : Fmt) (b : Brd) (htb : TbOk f tb) (hf : f.Ok) (hb : brdOk b = true) (A : Option Addr) (n c : Nat) (hc : n ≤ c) (w : World) (h : Rd w A 2 n (encP b.st)) : C0 Try.prog 43 [f.val, b.val A n c] w (.bool (arisesT tb f b).2) := by
  have hlen : b.st.length = n := by have := h.len; simpa [encP] using this
  have hbl := brd_len hb
  have hbp := brd_fit hb b.p (by simp [Brd.all])
  have hbg := brd_fit hb b.g (by simp [Brd.all])
  have hs0 := hf.s0
  have hwonV : wonV b.st = wonTo b.st n := by rw [wonV, hlen]
  refine ⟨en Try.func43 Try.ntmps43 ((St.init w).share (e := .ro A 2 n (encP b.st)) h rfl rfl rfl) (h := fun F => ?_)⟩
  refine sq (h := ?_)
  refine rg (h := ?_)
  refine bxA (h := fun b0 => ?_)
  refine bxA (h := fun b1 => ?_)
  refine WL.y (hy := asg) (h := ?_)
  refine nl (h := ?_)
  refine q_seq (h := ?_)
  refine sq (h := ?_)
  refine rg (h := ?_)
  refine al (h := fun b2 => ?_)
  refine nl (h := ?_)
  refine q_seq (h := ?_)
  refine sq (h := ?_)
  refine sq (h := ?_)
  refine rg (h := ?_)
  refine WL.y (hy := asg) (h := ?_)
  refine nl (h := ?_)
  refine q_seq (h := ?_)
  refine bk (h := ?_)
  refine lp (X := UHZ) (I := fun z => z.k ≤ n ∧ (setsTo tb f b.st z.k).ok = true ∧ (setsTo tb f b.st z.k).won = wonTo b.st z.k) (le := fun z => [(2, .pointer (some ⟨b0, 0, none⟩)), (3, .pointer (some ⟨b1, 0, none⟩)), (5, .pointer (some ⟨b2, 0, none⟩)), (6, .int .i64 z.k)]) (Le := fun z => [.blk b2 26 [.int .i64 (wonTo b.st z.k).1, .int .i64 (wonTo b.st z.k).2], .blk b0 23 f.cells, .blk b1 28 (b.cells A n c), .ro A 2 n (encP b.st)]) (μ := fun z => n - z.k) ⟨0⟩ ⟨Nat.zero_le _, rfl, rfl⟩ (by repeat (first | exact trivial | refine ⟨rfl, ?_⟩)) (by repeat (first | exact SubL.nil | (apply SubL.cons; (repeat (first | exact At.here | apply At.there))) | exact SubL.refl _ | apply SubL.skip)) (fun z hz => ?_)
  obtain ⟨hz1, hz2, hz3⟩ := hz
  refine sq (h := ?_)
  refine sq (h := ?_)
  refine rg (h := ?_)
  refine WL.y (hy := mv) (h := ?_)
  refine WL.y (hy := (by first | exact fa | exact faE)) (h := ?_)
  refine WL.y (hy := (by first | exact ld | exact ldE)) (h := ?_)
  refine WL.y (hy := lenS) (h := ?_)
  refine WL.y (hy := lss) (h := ?_)
  refine nl (h := ?_)
  refine q_seq (h := ?_)
  refine cd (by exact rfl) (fun h0 => ?_) (fun h0 => ?_)
  · skip
    have hkn : z.k < n := by simp only [decide_eq_true_eq] at h0; omega
    obtain ⟨p, hp⟩ : ∃ p, b.st[z.k]? = some p := ⟨_, List.getElem?_eq_getElem (by omega)⟩
    have hpe := encP_at hp
    have hpf := brd_fit hb p (by simp only [Brd.all]; exact List.mem_append_left _ (List.mem_of_getElem? hp))
    have hst := step_is htb hf hp (by omega) hz2 hz3
    have hwo : WonOk f (wonTo b.st z.k) := by rw [← hz3]; exact setsTo_won (by omega) _
    have how := over_won hwo
    refine skp (h := ?_)
    refine q_seq (h := ?_)
    refine sq (h := ?_)
    refine bk (h := ?_)
    refine sq (h := ?_)
    refine sq (h := ?_)
    refine rg (h := ?_)
    refine WL.y (hy := (by first | exact fa | exact faE)) (h := ?_)
    refine WL.y (hy := (by first | exact ld | exact ldE)) (h := ?_)
    refine WL.y (hy := (by first | exact fa | exact faE)) (h := ?_)
    refine WL.y (hy := (by first | exact ld | exact ldE)) (h := ?_)
    refine WL.y (hy := eql) (h := ?_)
    refine WL.y (hy := mv) (h := ?_)
    apply brOr 6 25 31 (by exact rfl)
    · intro hb1
      refine un (h := ?_)
      refine WL.y (hy := (by first | exact fa | exact faE)) (h := ?_)
      refine un (h := ?_)
      refine WL.y (hy := (by first | exact ld | exact ldE)) (h := ?_)
      refine un (h := ?_)
      refine WL.y (hy := (by first | exact fa | exact faE)) (h := ?_)
      refine un (h := ?_)
      refine WL.y (hy := (by first | exact ld | exact ldE)) (h := ?_)
      refine un (h := ?_)
      refine WL.y (hy := eql) (h := ?_)
      refine WL.y (hy := (by first | exact pkT | exact pkF)) (h := ?_)
      exact mg (by repeat (first | exact trivial | refine ⟨rfl, ?_⟩ | refine ⟨by rw [hb1]; rfl, ?_⟩)) (by repeat (first | exact SubL.nil | (apply SubL.cons; (repeat (first | exact At.here | apply At.there))) | exact SubL.refl _ | apply SubL.skip))
    · intro hb1
      repeat (first | refine un (h := ?_) | refine sk (h := ?_) | refine WL.y (hy := pkF) (h := ?_) | refine WL.y (hy := pkT) (h := ?_))
      exact mg (by repeat (first | exact trivial | refine ⟨rfl, ?_⟩ | refine ⟨by rw [hb1]; rfl, ?_⟩)) (by repeat (first | exact SubL.nil | (apply SubL.cons; (repeat (first | exact At.here | apply At.there))) | exact SubL.refl _ | apply SubL.skip))
    refine nl (h := ?_)
    refine q_seq (h := ?_)
    refine cd (by exact rfl) (fun h2 => ?_) (fun h2 => ?_)
    · skip
      have hE : (arisesT tb f b).2 = false := arises_no (k := z.k + 1) (by rw [hst.1, how, h2]; rfl) (by omega)
      refine sq (h := ?_)
      refine rg (h := ?_)
      refine WL.y (hy := asg) (h := ?_)
      refine nl (h := ?_)
      refine q_seq (h := ?_)
      refine rtn (h := ?_)
      refine q_then_ret (h := ?_)
      refine q_blk_ret (h := ?_)
      refine q_then_ret (h := ?_)
      refine q_then_ret (h := ?_)
      refine q_blk_ret (h := ?_)
      refine q_then_ret (h := ?_)
      refine q_ret (hR := ?_)
      first
        | (rw [hE]; exact fun w hS => ⟨rfl, hS.sub (by repeat (first | exact SubL.nil | (apply SubL.cons; (repeat (first | exact At.here | apply At.there))) | exact SubL.refl _ | apply SubL.skip))⟩)
        | (rw [hE]; refine fun w hS => ⟨?_, hS.sub (by repeat (first | exact SubL.nil | (apply SubL.cons; (repeat (first | exact At.here | apply At.there))) | exact SubL.refl _ | apply SubL.skip))⟩; rw [show decide (expT f (setV f (wonV b.st)) b.g.1 b.g.2 = some false) = decide (0 < Ox.getD b.g.2.toNat 0) from decide_eq_decide.2 hfl.symm]; first | rfl | (rw [hb7]; rfl))
    · skip
      have hov : overV f (wonTo b.st z.k) = false := how.trans h2
      refine skp (h := ?_)
      refine q_seq (h := ?_)
      refine sq (h := ?_)
      refine rgD0 (by kernel_rfl) (h := ?_)
      refine tk 0 (hy := (by first | exact ldA | exact ldEA)) (h := ?_)
      refine tk 1 (hy := (by first | exact ldA | exact ldEA)) (h := ?_)
      refine tk 2 (hy := (by first | exact ldA | exact ldEA)) (h := ?_)
      refine one 3 (h := ?_)
      refine cl0 (hc := fun w hS => C_ref1_IsLast f (wonTo b.st z.k) hf w) (h := ?_)
      refine nx (h := ?_)
      refine one 4 (h := ?_)
      refine cl (hc := fun w hS => C_orders f _ hf (tie_ok hf (wonTo b.st z.k)) w) (h := fun x hx => ?_)
      rw [rule_set] at hx
      obtain ⟨OA, Oc, Ox, hor, hol, hov2, hog, hod⟩ := hx.1.2.at (a := p.1.toNat) (by omega)
      refine nx (h := ?_)
      refine tk 5 (hy := mv) (h := ?_)
      refine tk 6 (hy := ex) (h := ?_)
      refine tk 7 (hy := ex) (h := ?_)
      refine tk 8 (hy := asg) (h := ?_)
      refine tk 9 (hy := asg) (h := ?_)
      refine dn (h := ?_)
      refine q_seq (h := ?_)
      refine sq (h := ?_)
      refine sq (h := ?_)
      refine rgD0 (by kernel_rfl) (h := ?_)
      refine tk 0 (hy := mv) (h := ?_)
      refine tk 1 (hy := (by first | exact fa | exact faE)) (h := ?_)
      refine tk 2 (hy := (by first | exact ld | exact ldE)) (h := ?_)
      refine tk 3 (hy := mv) (h := ?_)
      refine tk 4 (hy := ix (A := A) (m := n)) (h := ?_)
      refine tk 5 (hy := (by first | exact fa | exact faE)) (h := ?_)
      refine tk 6 (hy := ldE (A := A) (hk := hpe)) (h := ?_)
      refine tk 7 (hy := ix (A := x.A2) (m := 45)) (h := ?_)
      refine tk 8 (hy := ldE (A := x.A2) (hk := hov2)) (h := ?_)
      refine tk 9 (hy := (by first | exact fa | exact faE)) (h := ?_)
      refine tk 10 (hy := (by first | exact ld | exact ldE)) (h := ?_)
      refine tk 11 (hy := mv) (h := ?_)
      refine tk 12 (hy := ix (A := A) (m := n)) (h := ?_)
      refine tk 13 (hy := (by first | exact fa | exact faE)) (h := ?_)
      refine tk 14 (hy := ldE (A := A) (hk := hpe)) (h := ?_)
      refine tk 15 (hy := ix (A := OA) (m := 45) (hr := by repeat (first | exact Rds.any (hod 3) | apply Rds.there))) (h := ?_)
      refine tk 16 (hy := ldE (A := OA) (hr := by repeat (first | exact Rds.any (hod 3) | apply Rds.there)) (hk := mI_at (k := p.2.toNat) (by omega))) (h := ?_)
      refine tk 17 (hy := eql) (h := ?_)
      refine dn (h := ?_)
      refine q_seq (h := ?_)
      refine cd (by exact rfl) (fun h3 => ?_) (fun h3 => ?_)
      · skip
        have hE : (arisesT tb f b).2 = false := arises_no (k := z.k + 1) (by rw [hst.1, decide_eq_false ((hx.2 p.1.toNat p.2.toNat (by omega) (by omega)).2.1 (by rw [hog]; exact of_decide_eq_true h3) |> fun e => by rw [Int.toNat_of_nonneg hpf.1.1, Int.toNat_of_nonneg hpf.2.1] at e; exact e), Bool.and_false]) (by omega)
        refine sq (h := ?_)
        refine rg (h := ?_)
        refine WL.y (hy := asg) (h := ?_)
        refine nl (h := ?_)
        refine q_seq (h := ?_)
        refine rtn (h := ?_)
        refine q_then_ret (h := ?_)
        refine q_blk_ret (h := ?_)
        refine q_then_ret (h := ?_)
        refine q_then_ret (h := ?_)
        refine q_blk_ret (h := ?_)
        refine q_then_ret (h := ?_)
        refine q_ret (hR := ?_)
        first
          | (rw [hE]; exact fun w hS => ⟨rfl, hS.sub (by repeat (first | exact SubL.nil | (apply SubL.cons; (repeat (first | exact At.here | apply At.there))) | exact SubL.refl _ | apply SubL.skip))⟩)
          | (rw [hE]; refine fun w hS => ⟨?_, hS.sub (by repeat (first | exact SubL.nil | (apply SubL.cons; (repeat (first | exact At.here | apply At.there))) | exact SubL.refl _ | apply SubL.skip))⟩; rw [show decide (expT f (setV f (wonV b.st)) b.g.1 b.g.2 = some false) = decide (0 < Ox.getD b.g.2.toNat 0) from decide_eq_decide.2 hfl.symm]; first | rfl | (rw [hb7]; rfl))
      · skip
        have hex : expT f (setV f (wonTo b.st z.k)) p.1 p.2 = some true := by
          have h1 := (hx.2 p.1.toNat p.2.toNat (by omega) (by omega)).2
          rw [Int.toNat_of_nonneg hpf.1.1, Int.toNat_of_nonneg hpf.2.1, hog] at h1
          exact Classical.byContradiction fun e => (of_decide_eq_false h3) (h1.2 e)
        have hok : (setsTo tb f b.st (z.k + 1)).ok = true := by rw [hst.1, hov, decide_eq_true hex]; rfl
        have hwn := hst.2 hok
        have hwt := wonV_take (l := b.st) (K := z.k + 1) (by omega)
        refine skp (h := ?_)
        refine q_seq (h := ?_)
        refine rg (h := ?_)
        refine WL.y (hy := (by first | exact fa | exact faE)) (h := ?_)
        refine WL.y (hy := (by first | exact ld | exact ldE)) (h := ?_)
        refine WL.y (hy := mv) (h := ?_)
        refine WL.y (hy := addI) (h := ?_)
        refine WL.y (hy := slP (A := A) (m := n) (cap := c) (hi' := z.k + 1) (hc := by omega)) (h := ?_)
        refine cl0 (hc := fun w hS => C_ref1_Won (b.st.take (z.k + 1)) A (z.k + 1) c w (by rw [← encP_take]; exact Rd.pre (hS.get (by repeat (first | exact Rds.ro | apply Rds.there))) (z.k + 1) (by omega)) (by omega)) (h := ?_)
        rw [hwt]
        first | refine stA (h := ?_) | refine stEA (h := ?_)
        refine nl (h := ?_)
        refine q_blk_norm (h := ?_)
        refine q_seq (h := ?_)
        refine rg (h := ?_)
        refine WL.y (hy := mv) (h := ?_)
        refine WL.y (hy := addI) (h := ?_)
        refine WL.y (hy := asg) (h := ?_)
        refine nl (h := ?_)
        refine rn (x := z) ⟨z.k + 1⟩ ⟨by dsimp only; omega, hok, hwn⟩ (by dsimp only; omega) (by repeat (first | exact trivial | refine ⟨rfl, ?_⟩)) (by repeat (first | exact SubL.nil | (apply SubL.cons; (repeat (first | exact At.here | apply At.there))) | exact SubL.refl _ | apply SubL.skip))
  · skip
    have hkn : z.k = n := by simp only [decide_eq_false_iff_not] at h0; omega
    rw [hkn] at hz2 hz3
    have hz2' : (setsTo tb f b.st b.st.length).ok = true := by rw [hlen]; exact hz2
    have hz3' : (setsTo tb f b.st b.st.length).won = wonV b.st := by rw [hlen, hwonV]; exact hz3
    have hwo : WonOk f (wonV b.st) := by rw [← hz3']; exact setsTo_won (by omega) _
    have how := over_won hwo
    rw [hkn, ← hwonV]
    refine et (h := ?_)
    refine q_then_exit (h := ?_)
    refine q_then_exit (h := ?_)
    refine q_blk_hit (h := ?_)
    refine q_seq (h := ?_)
    refine sq (h := ?_)
    refine sq (h := ?_)
    refine rg (h := ?_)
    refine WL.y (hy := (by first | exact fa | exact faE)) (h := ?_)
    refine WL.y (hy := (by first | exact ld | exact ldE)) (h := ?_)
    refine WL.y (hy := (by first | exact fa | exact faE)) (h := ?_)
    refine WL.y (hy := (by first | exact ld | exact ldE)) (h := ?_)
    refine WL.y (hy := eql) (h := ?_)
    refine WL.y (hy := mv) (h := ?_)
    apply brOr 6 69 75 (by exact rfl)
    · intro hb4
      refine un (h := ?_)
      refine WL.y (hy := (by first | exact fa | exact faE)) (h := ?_)
      refine un (h := ?_)
      refine WL.y (hy := (by first | exact ld | exact ldE)) (h := ?_)
      refine un (h := ?_)
      refine WL.y (hy := (by first | exact fa | exact faE)) (h := ?_)
      refine un (h := ?_)
      refine WL.y (hy := (by first | exact ld | exact ldE)) (h := ?_)
      refine un (h := ?_)
      refine WL.y (hy := eql) (h := ?_)
      refine WL.y (hy := (by first | exact pkT | exact pkF)) (h := ?_)
      exact mg (by repeat (first | exact trivial | refine ⟨rfl, ?_⟩ | refine ⟨by rw [hb4]; rfl, ?_⟩)) (by repeat (first | exact SubL.nil | (apply SubL.cons; (repeat (first | exact At.here | apply At.there))) | exact SubL.refl _ | apply SubL.skip))
    · intro hb4
      repeat (first | refine un (h := ?_) | refine sk (h := ?_) | refine WL.y (hy := pkF) (h := ?_) | refine WL.y (hy := pkT) (h := ?_))
      exact mg (by repeat (first | exact trivial | refine ⟨rfl, ?_⟩ | refine ⟨by rw [hb4]; rfl, ?_⟩)) (by repeat (first | exact SubL.nil | (apply SubL.cons; (repeat (first | exact At.here | apply At.there))) | exact SubL.refl _ | apply SubL.skip))
    refine nl (h := ?_)
    refine q_seq (h := ?_)
    refine cd (by exact rfl) (fun h5 => ?_) (fun h5 => ?_)
    · skip
      have hE := arises_end hz2' hz3' (how.trans h5)
      refine sq (h := ?_)
      refine rg (h := ?_)
      refine WL.y (hy := (by first | exact fa | exact faE)) (h := ?_)
      refine WL.y (hy := (by first | exact ldA | exact ldEA)) (h := ?_)
      refine WL.y (hy := bd) (h := ?_)
      refine WL.y (hy := eqlT) (h := ?_)
      refine WL.y (hy := mv) (h := ?_)
      apply brAnd 5 80 85 (by exact rfl)
      · intro hb6
        refine un (h := ?_)
        refine WL.y (hy := (by first | exact fa | exact faE)) (h := ?_)
        refine un (h := ?_)
        refine WL.y (hy := (by first | exact ldA | exact ldEA)) (h := ?_)
        refine un (h := ?_)
        refine WL.y (hy := bd) (h := ?_)
        refine un (h := ?_)
        refine WL.y (hy := eqlT) (h := ?_)
        refine WL.y (hy := (by first | exact pkT | exact pkF)) (h := ?_)
        exact mg (by repeat (first | exact trivial | refine ⟨rfl, ?_⟩ | refine ⟨by rw [hb6]; rfl, ?_⟩)) (by repeat (first | exact SubL.nil | (apply SubL.cons; (repeat (first | exact At.here | apply At.there))) | exact SubL.refl _ | apply SubL.skip))
      · intro hb6
        repeat (first | refine un (h := ?_) | refine sk (h := ?_) | refine WL.y (hy := pkF) (h := ?_) | refine WL.y (hy := pkT) (h := ?_))
        exact mg (by repeat (first | exact trivial | refine ⟨rfl, ?_⟩ | refine ⟨by rw [hb6]; rfl, ?_⟩)) (by repeat (first | exact SubL.nil | (apply SubL.cons; (repeat (first | exact At.here | apply At.there))) | exact SubL.refl _ | apply SubL.skip))
      refine WL.y (hy := asg) (h := ?_)
      refine nl (h := ?_)
      refine q_seq (h := ?_)
      refine rtn (h := ?_)
      refine q_then_ret (h := ?_)
      refine q_ret (hR := ?_)
      first
        | (rw [hE]; exact fun w hS => ⟨rfl, hS.sub (by repeat (first | exact SubL.nil | (apply SubL.cons; (repeat (first | exact At.here | apply At.there))) | exact SubL.refl _ | apply SubL.skip))⟩)
        | (rw [hE]; refine fun w hS => ⟨?_, hS.sub (by repeat (first | exact SubL.nil | (apply SubL.cons; (repeat (first | exact At.here | apply At.there))) | exact SubL.refl _ | apply SubL.skip))⟩; rw [show decide (expT f (setV f (wonV b.st)) b.g.1 b.g.2 = some false) = decide (0 < Ox.getD b.g.2.toNat 0) from decide_eq_decide.2 hfl.symm]; first | rfl | (rw [hb7]; rfl))
    · skip
      have hov : overV f (wonV b.st) = false := how.trans h5
      have hE := arises_pts htb hf hbg (by omega) hz2' hz3' hov
      refine skp (h := ?_)
      refine q_seq (h := ?_)
      refine sq (h := ?_)
      refine rgD0 (by kernel_rfl) (h := ?_)
      refine tk 0 (hy := (by first | exact ldA | exact ldEA)) (h := ?_)
      refine tk 1 (hy := (by first | exact ldA | exact ldEA)) (h := ?_)
      refine tk 2 (hy := (by first | exact ldA | exact ldEA)) (h := ?_)
      refine one 3 (h := ?_)
      refine cl0 (hc := fun w hS => C_ref1_IsLast f (wonV b.st) hf w) (h := ?_)
      refine nx (h := ?_)
      refine one 4 (h := ?_)
      refine cl (hc := fun w hS => C_orders f _ hf (tie_ok hf (wonV b.st)) w) (h := fun x hx => ?_)
      rw [rule_set] at hx
      obtain ⟨OA, Oc, Ox, hor, hol, hov2, hog, hod⟩ := hx.1.1.at (a := b.g.1.toNat) (by omega)
      have hfl := (hx.2 b.g.1.toNat b.g.2.toNat (by omega) (by omega)).1
      rw [Int.toNat_of_nonneg hbg.1.1, Int.toNat_of_nonneg hbg.2.1, hog] at hfl
      refine nx (h := ?_)
      refine tk 5 (hy := mv) (h := ?_)
      refine tk 6 (hy := ex) (h := ?_)
      refine tk 7 (hy := ex) (h := ?_)
      refine tk 8 (hy := asg) (h := ?_)
      refine tk 9 (hy := asg) (h := ?_)
      refine dn (h := ?_)
      refine q_seq (h := ?_)
      refine sq (h := ?_)
      refine rg (h := ?_)
      refine WL.y (hy := (by first | exact ldA | exact ldEA)) (h := ?_)
      refine WL.y (hy := (by first | exact ldA | exact ldEA)) (h := ?_)
      refine cl0 (hc := fun w hS => C_ref1_tied f b A n c hf w (hS.get (by repeat (first | exact Rds.ro | apply Rds.there))) (by omega)) (h := ?_)
      refine WL.y (hy := mv) (h := ?_)
      refine WL.y (hy := ex) (h := ?_)
      refine WL.y (hy := ex) (h := ?_)
      refine WL.y (hy := asg) (h := ?_)
      refine WL.y (hy := asg) (h := ?_)
      refine nl (h := ?_)
      refine q_seq (h := ?_)
      refine sq (h := ?_)
      refine rgD0 (by kernel_rfl) (h := ?_)
      refine tk 0 (hy := mv) (h := ?_)
      refine tk 1 (hy := (by first | exact fa | exact faE)) (h := ?_)
      refine tk 2 (hy := (by first | exact fa | exact faE)) (h := ?_)
      refine tk 3 (hy := (by first | exact ld | exact ldE)) (h := ?_)
      refine tk 4 (hy := ix (A := x.A1) (m := 45)) (h := ?_)
      refine tk 5 (hy := ldE (A := x.A1) (hk := hov2)) (h := ?_)
      refine tk 6 (hy := (by first | exact fa | exact faE)) (h := ?_)
      refine tk 7 (hy := (by first | exact fa | exact faE)) (h := ?_)
      refine tk 8 (hy := (by first | exact ld | exact ldE)) (h := ?_)
      refine tk 9 (hy := ix (A := OA) (m := 45) (hr := by repeat (first | exact Rds.any (hod 3) | apply Rds.there))) (h := ?_)
      refine tk 10 (hy := ldE (A := OA) (hr := by repeat (first | exact Rds.any (hod 3) | apply Rds.there)) (hk := mI_at (k := b.g.2.toNat) (by omega))) (h := ?_)
      refine tk 11 (hy := gtr) (h := ?_)
      refine tk 12 (hy := mv) (h := ?_)
      refine brH (g := 112) (by exact rfl) (fun hb7 => ?_) (fun hb7 => ?_)
      · skip
        refine tk 13 (hy := (by first | exact ldA | exact ldEA)) (h := ?_)
        refine tk 14 (hy := mv) (h := ?_)
        refine tk 15 (hy := mv) (h := ?_)
        refine tk 16 (hy := (by first | exact fa | exact faE)) (h := ?_)
        refine tk 17 (hy := (by first | exact ldA | exact ldEA)) (h := ?_)
        refine one 18 (h := ?_)
        refine un (h := ?_)
        refine cl0 (hc := fun w hS => C_ArePoints f (tiedV f b.st b.g) (setV f (wonV b.st)).2 b.p (by omega) w) (h := ?_)
        refine nx (h := ?_)
        refine tk 19 (hy := (by first | exact pkT | exact pkF)) (h := ?_)
        refine tk 20 (hy := asg) (h := ?_)
        refine dn (h := ?_)
        refine q_seq (h := ?_)
        refine rtn (h := ?_)
        refine q_ret (hR := ?_)
        first
          | (rw [hE]; exact fun w hS => ⟨rfl, hS.sub (by repeat (first | exact SubL.nil | (apply SubL.cons; (repeat (first | exact At.here | apply At.there))) | exact SubL.refl _ | apply SubL.skip))⟩)
          | (rw [hE]; refine fun w hS => ⟨?_, hS.sub (by repeat (first | exact SubL.nil | (apply SubL.cons; (repeat (first | exact At.here | apply At.there))) | exact SubL.refl _ | apply SubL.skip))⟩; rw [show decide (expT f (setV f (wonV b.st)) b.g.1 b.g.2 = some false) = decide (0 < Ox.getD b.g.2.toNat 0) from decide_eq_decide.2 hfl.symm]; first | rfl | (rw [hb7]; rfl))
      · skip
        refine tkS 13 (h := ?_)
        refine tkS 14 (h := ?_)
        refine tkS 15 (h := ?_)
        refine tkS 16 (h := ?_)
        refine tkS 17 (h := ?_)
        refine tkS 18 (h := ?_)
        refine tk 19 (hy := (by first | exact pkT | exact pkF)) (h := ?_)
        refine tk 20 (hy := asg) (h := ?_)
        refine dn (h := ?_)
        refine q_seq (h := ?_)
        refine rtn (h := ?_)
        refine q_ret (hR := ?_)
        first
          | (rw [hE]; exact fun w hS => ⟨rfl, hS.sub (by repeat (first | exact SubL.nil | (apply SubL.cons; (repeat (first | exact At.here | apply At.there))) | exact SubL.refl _ | apply SubL.skip))⟩)
          | (rw [hE]; refine fun w hS => ⟨?_, hS.sub (by repeat (first | exact SubL.nil | (apply SubL.cons; (repeat (first | exact At.here | apply At.there))) | exact SubL.refl _ | apply SubL.skip))⟩; rw [show decide (expT f (setV f (wonV b.st)) b.g.1 b.g.2 = some false) = decide (0 < Ox.getD b.g.2.toNat 0) from decide_eq_decide.2 hfl.symm]; first | rfl | (rw [hb7]; rfl))
end Go.Proofs.Ytacaojifempclaa
