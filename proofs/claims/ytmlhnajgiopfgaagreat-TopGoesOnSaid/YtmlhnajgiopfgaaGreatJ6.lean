/- The texts of the walk, part 6. -/
import Derived.Test.YtmlhnajgiopfgaaGreatJ5
import Derived.Scope
namespace Go.Proofs.YtmlhnajgiopfgaaGreat
open Go Go.RowKit

abbrev bitF (done : Nat) : Nat → Bool := fun k => done.testBit k
theorem bitF_put (done j : Nat) : bitF (done ||| 2 ^ j) = upB (bitF done) j := by
  funext i
  exact put_bit done j i
def lev (n done : Nat) : Nat := ((List.range n).filter fun k => done.testBit k).length
theorem lev_le (n done : Nat) : lev n done ≤ n := by
  unfold lev
  exact Nat.le_trans (List.length_filter_le ..) (by rw [List.length_range]; exact Nat.le_refl _)
theorem lev_succ (n done : Nat) : lev (n + 1) done = lev n done + (bif done.testBit n then 1 else 0) := by
  unfold lev
  rw [List.range_succ, List.filter_append, List.length_append, List.filter_cons, List.filter_nil]
  cases done.testBit n <;> rfl
theorem lev_put {done j : Nat} (hj : done.testBit j = false) : ∀ n, lev n (done ||| 2 ^ j) = lev n done + (if j < n then 1 else 0)
  | 0 => by rw [if_neg (Nat.not_lt_zero _)]; rfl
  | n + 1 => by
    rw [lev_succ, lev_succ, lev_put hj n, put_bit]
    by_cases e : n = j
    · subst e
      rw [if_pos rfl, hj, if_neg (Nat.lt_irrefl _), if_pos (Nat.lt_succ_self _)]; rfl
    · rw [if_neg e]
      by_cases e2 : j < n
      · rw [if_pos e2, if_pos (by omega)]; omega
      · rw [if_neg e2, if_neg (by omega)]; omega
structure Nrm (d : DS) : Prop where
  fr : ∀ i, 3 ≤ i → d.fr i = 0
  en : ∀ i, 6 ≤ i → d.en i = 0
abbrev stC (d : DS) (done : Nat) : List Value := [.int .i64 d.num, .int .i64 (d.fr 0), .int .i64 (d.fr 1), .int .i64 (d.fr 2), .int .i64 (d.en 0), .int .i64 (d.en 1), .int .i64 (d.en 2), .int .i64 (d.en 3), .int .i64 (d.en 4), .int .i64 (d.en 5), .int .i64 done, .int .i64 0]
abbrev stV (d : DS) (done : Nat) : Value := .agg #[.int .i64 d.num, .int .i64 (d.fr 0), .int .i64 (d.fr 1), .int .i64 (d.fr 2), .int .i64 (d.en 0), .int .i64 (d.en 1), .int .i64 (d.en 2), .int .i64 (d.en 3), .int .i64 (d.en 4), .int .i64 (d.en 5), .int .i64 done, .int .i64 0]
abbrev stK (d : DS) (done : Nat) : List Fl := [.i d.num, .i (d.fr 0), .i (d.fr 1), .i (d.fr 2), .i (d.en 0), .i (d.en 1), .i (d.en 2), .i (d.en 3), .i (d.en 4), .i (d.en 5), .i done, .i 0]
abbrev ks12 : List Bool := [false, false, false, false, false, false, false, false, false, false, false, false]
theorem stK_inj {d d' : DS} {done done' : Nat} (h : stK d done = stK d' done') (hd : Nrm d) (hd' : Nrm d') : d = d' ∧ done = done' := by
  simp only [stK, List.cons.injEq, Fl.i.injEq, Int.natCast_inj, and_true] at h
  obtain ⟨h1, f0, f1, f2, e0, e1, e2, e3, e4, e5, h2⟩ := h
  refine ⟨?_, h2⟩
  have hf : d.fr = d'.fr := by
    funext i
    match i with
    | 0 => exact f0
    | 1 => exact f1
    | 2 => exact f2
    | i + 3 => rw [hd.fr _ (by omega), hd'.fr _ (by omega)]
  have he : d.en = d'.en := by
    funext i
    match i with
    | 0 => exact e0
    | 1 => exact e1
    | 2 => exact e2
    | 3 => exact e3
    | 4 => exact e4
    | 5 => exact e5
    | i + 6 => rw [hd.en _ (by omega), hd'.en _ (by omega)]
  cases d; cases d'
  simp only at h1 hf he
  rw [h1, hf, he]
theorem frTo_zero {l : List Sn} : ∀ {k i : Nat}, k ≤ i → frTo l k i = 0
  | 0, _, _ => rfl
  | k + 1, i, h => by
    rw [frTo]
    cases l[k]? with
    | none => exact frTo_zero (by omega)
    | some s =>
      show upF _ _ _ i = 0
      unfold upF
      rw [if_neg (by omega)]; exact frTo_zero (by omega)
theorem nrm_open {p : Pg} (hp : POk p) (n : Int) : Nrm (openD p n) := by
  refine ⟨fun i hi => ?_, fun i hi => rfl⟩
  unfold openD
  dsimp only
  cases e : p.days[n.toNat]? with
  | none => rfl
  | some d =>
    have hl := (List.getElem?_eq_some_iff.1 e).1
    have h1 := (hp.dy _ d hl e).1
    have h2 := hp.nc
    exact frTo_zero (by omega)
theorem nrm_day {p : Pg} (hp : POk p) {d : DS} (h : Nrm d) (n : Int) : Nrm (dayAt p d n) := by
  unfold dayAt
  split
  · exact h
  · exact nrm_open hp n
theorem nrm_play {p : Pg} {d : DS} (h : Nrm d) {s : Se} {v : Int} (hc : s.court.toNat < 3) (hj : s.job.toNat < 6) : Nrm (playD p d s v) := by
  refine ⟨fun i hi => ?_, fun i hi => ?_⟩
  · show upF _ _ _ i = 0
    unfold upF
    rw [if_neg (by omega)]; exact h.fr i hi
  · show upF _ _ _ i = 0
    unfold upF
    rw [if_neg (by omega)]; exact h.en i hi

structure SeenS (x : WnX) : Prop where
  m : MapIs x.es x.kv
  s : ∀ p ∈ x.kv, shapeOf p.1 = ks12
  t : Stm x.es x.c
  i : ∀ p ∈ x.kv, IntV p.2
abbrev keysX (x : WnX) : List (List Fl) := x.kv.map Prod.fst
theorem SeenS.nil : SeenS ⟨#[], 0, []⟩ := ⟨rfl, fun p hp => (by cases hp), stm0, fun p hp => (by cases hp)⟩
theorem SeenS.v {x : WnX} (h : SeenS x) : MapV x.es ks12 IntV x.kv.length := ⟨x.kv, h.m, fun p hp => ⟨h.s p hp, h.i p hp⟩, Nat.le_refl _⟩
theorem SeenS.put {x : WnX} (h : SeenS x) {k : List Fl} (hk : shapeOf k = ks12) {u : Value} (hu : IntV u) {es' : Array MapEntry} {c' : Nat} (hm : MapIs es' (updM x.kv k u)) (ht : Stm es' c') : SeenS ⟨es', c', updM x.kv k u⟩ :=
  ⟨hm, updM_shape h.s hk, ht, fun p hp => by
    rcases mem_updM hp with rfl | hp
    · exact hu
    · exact h.i p hp⟩
theorem key_put {x : WnX} {k k' : List Fl} {u : Value} {es' : Array MapEntry} {c' : Nat} : k' ∈ keysX ⟨es', c', updM x.kv k u⟩ ↔ k' ∈ keysX x ∨ k' = k := by
  show k' ∈ (updM x.kv k u).map Prod.fst ↔ _
  rw [updM_keys]
  split
  · next h => exact ⟨.inl, fun h2 => h2.elim id fun e => e ▸ h⟩
  · rw [List.mem_append, List.mem_singleton]
def DeadFrom (p : Pg) (days : Int) (x : WnX) (m : Nat) : Prop := ∀ d done, Nrm d → stK d done ∈ keysX x → m ≤ lev p.jobs.length done → Dead p days d (bitF done)
def NewFrom (p : Pg) (x y : WnX) (m : Nat) : Prop := ∀ d done, Nrm d → stK d done ∈ keysX y → stK d done ∈ keysX x ∨ m ≤ lev p.jobs.length done
theorem DeadFrom.mono {p : Pg} {days : Int} {x : WnX} {m m' : Nat} (h : DeadFrom p days x m) (hm : m ≤ m') : DeadFrom p days x m' := fun d done h1 h2 h3 => h d done h1 h2 (by omega)
structure TryI (p : Pg) (days : Int) (x : WnX) (d : DS) (done : Nat) (y : WnX) : Prop where
  s : SeenS y
  dead : DeadFrom p days y (lev p.jobs.length done + 1)
  new : ∀ d' done', Nrm d' → stK d' done' ∈ keysX y → stK d' done' ∈ keysX x ∨ stK d' done' = stK d done ∨ lev p.jobs.length done + 1 ≤ lev p.jobs.length done'
theorem TryI.start {p : Pg} {days : Int} {x : WnX} {d : DS} {done : Nat} (hx : SeenS x) (hD : DeadFrom p days x (lev p.jobs.length done)) (hd : Nrm d) {u : Value} (hu : IntV u) {es' : Array MapEntry} {c' : Nat} (hm : MapIs es' (updM x.kv (stK d done) u)) (ht : Stm es' c') : TryI p days x d done ⟨es', c', updM x.kv (stK d done) u⟩ := by
  refine ⟨hx.put rfl hu hm ht, fun d' done' h1 h2 h3 => ?_, fun d' done' h1 h2 => ?_⟩
  · rcases key_put.1 h2 with h4 | h4
    · exact hD d' done' h1 h4 (by omega)
    · have := (stK_inj h4 h1 hd).2
      subst this
      omega
  · rcases key_put.1 h2 with h4 | h4
    · exact .inl h4
    · exact .inr (.inl h4)
theorem TryI.next {p : Pg} {days : Int} {x : WnX} {d : DS} {done : Nat} {y z : WnX} (h : TryI p days x d done y) (hz : SeenS z) (hd : DeadFrom p days z (lev p.jobs.length done + 1)) (hn : NewFrom p y z (lev p.jobs.length done + 1)) : TryI p days x d done z := by
  refine ⟨hz, hd, fun d' done' h1 h2 => ?_⟩
  rcases hn d' done' h1 h2 with h3 | h3
  · exact h.new d' done' h1 h3
  · exact .inr (.inr h3)
theorem TryI.dead_all {p : Pg} {days : Int} {x : WnX} {d : DS} {done : Nat} {y : WnX} (h : TryI p days x d done y) (hD : DeadFrom p days x (lev p.jobs.length done)) (hd : Nrm d) (h0 : Dead p days d (bitF done)) : DeadFrom p days y (lev p.jobs.length done) ∧ NewFrom p x y (lev p.jobs.length done) := by
  refine ⟨fun d' done' h1 h2 h3 => ?_, fun d' done' h1 h2 => ?_⟩
  · rcases h.new d' done' h1 h2 with h4 | h4 | h4
    · exact hD d' done' h1 h4 h3
    · obtain ⟨rfl, rfl⟩ := stK_inj h4 h1 hd
      exact h0
    · exact h.dead d' done' h1 h2 h4
  · rcases h.new d' done' h1 h2 with h4 | h4 | h4
    · exact .inl h4
    · obtain ⟨-, rfl⟩ := stK_inj h4 h1 hd
      exact .inr (Nat.le_refl _)
    · exact .inr (by omega)
def NoJ (p : Pg) (days : Int) (d : DS) (dn : Nat → Bool) (job : Nat) : Prop := ∀ (s : Se) (o : List Se), s.job < job → ¬ Pth p days d dn (s :: o)
def NoD (p : Pg) (days : Int) (d : DS) (dn : Nat → Bool) (job : Nat) (n : Int) : Prop := ∀ (s : Se) (o : List Se), s.job = job → s.day < n → ¬ Pth p days d dn (s :: o)
def NoC (p : Pg) (days : Int) (d : DS) (dn : Nat → Bool) (job : Nat) (n : Int) (c : Nat) : Prop := ∀ (s : Se) (o : List Se), s.job = job → s.day = n → s.court < c → ¬ Pth p days d dn (s :: o)
section
variable {p : Pg} {days : Int} {d : DS} {dn : Nat → Bool}
theorem NoJ.zero : NoJ p days d dn 0 := fun s o h hP => by have := hP.1.job; omega
theorem NoJ.step {job : Nat} (h : NoJ p days d dn job) (h2 : ∀ (s : Se) (o : List Se), s.job = job → ¬ Pth p days d dn (s :: o)) : NoJ p days d dn (job + 1) := fun s o hs => by
  by_cases e : s.job = job
  · exact h2 s o e
  · exact h s o (by omega)
theorem NoD.zero {job : Nat} : NoD p days d dn job d.num := fun s o _ h hP => by have := hP.1.day; omega
theorem NoD.step {job : Nat} {n : Int} (h : NoD p days d dn job n) {c : Nat} (h2 : NoC p days d dn job n c) (hc : p.nc ≤ c) : NoD p days d dn job (n + 1) := fun s o hs hd hP => by
  by_cases e : s.day = n
  · exact h2 s o hs e (by have := hP.1.court; omega) hP
  · exact h s o hs (by omega) hP
theorem NoD.out {job : Nat} {n : Int} (h : NoD p days d dn job n) {j : Jb} (hj : p.jobs[job]? = some j) (hn : ¬ (n < days ∧ n ≤ j.due)) : ∀ (s : Se) (o : List Se), s.job = job → ¬ Pth p days d dn (s :: o) := fun s o hs hP => by
  have h1 := hP.1.day
  have h2 := hP.1.due j (by rw [hs]; exact hj)
  by_cases e : s.day < n
  · exact h s o hs e hP
  · omega
theorem NoC.zero {job : Nat} {n : Int} : NoC p days d dn job n 0 := fun s o _ _ h hP => by have := hP.1.court; omega
theorem NoC.step {job : Nat} {n : Int} {c : Nat} (h : NoC p days d dn job n c) (h2 : ∀ o, ¬ Pth p days d dn (⟨job, n, c⟩ :: o)) : NoC p days d dn job n (c + 1) := fun s o hs hd hc hP => by
  by_cases e : s.court = c
  · obtain ⟨j, dy, ct⟩ := s
    dsimp only at hs hd e
    subst hs hd e
    exact h2 o hP
  · exact h s o hs hd (by omega) hP
theorem dead_of {n : Nat} (hn : p.jobs.length = n) (h : NoJ p days d dn n) (h0 : ¬ ∀ k, k < p.jobs.length → dn k = true) : Dead p days d dn := fun o hP => by
  cases o with
  | nil => exact h0 hP
  | cons s o =>
    have := hP.1.job
    exact h s o (by omega) hP
end
theorem all_done {n done : Nat} (hn : n ≤ 6) (hd : done < 2 ^ n) (h : done ≠ 2 ^ n - 1) : ¬ ∀ k, k < n → bitF done k = true := fun h2 => h (all_bits hn hd h2)
theorem done_all {n k : Nat} (hk : k < n) : bitF (2 ^ n - 1) k = true := by
  show (2 ^ n - 1).testBit k = true
  rw [Nat.testBit_two_pow_sub_one]; exact decide_eq_true hk
theorem put_lt_pow {done j n : Nat} (hd : done < 2 ^ n) (hj : j < n) : done ||| 2 ^ j < 2 ^ n := Nat.or_lt_two_pow hd (Nat.pow_lt_pow_right (by omega) hj)
end Go.Proofs.YtmlhnajgiopfgaaGreat

namespace Go.Proofs.YtmlhnajgiopfgaaGreat
open Go Go.RowKit

theorem fr_at12 (d : DS) (done : Nat) {i : Nat} (hi : i < 3) : (stC d done)[1 + i]? = some (.int .i64 (d.fr i)) := by
  match i, hi with
  | 0, _ => rfl
  | 1, _ => rfl
  | 2, _ => rfl
theorem fr_set12 (d : DS) (done : Nat) {i : Nat} (hi : i < 3) (v : Int) : (stC d done).set (1 + i) (.int .i64 v) = stC ⟨d.num, upF d.fr i v, d.en⟩ done := by
  match i, hi with
  | 0, _ => rfl
  | 1, _ => rfl
  | 2, _ => rfl
theorem en_set12 (d : DS) (done : Nat) {i : Nat} (hi : i < 6) (v : Int) : (stC d done).set (4 + i) (.int .i64 v) = stC ⟨d.num, d.fr, upF d.en i v⟩ done := by
  match i, hi with
  | 0, _ => rfl
  | 1, _ => rfl
  | 2, _ => rfl
  | 3, _ => rfl
  | 4, _ => rfl
  | 5, _ => rfl
set_option maxRecDepth 100000 in
theorem T_playX (p : Pg) (hp : POk p) (hn : PgN p) (s : Se) (j : Jb) (hj : p.jobs[s.job.toNat]? = some j) (hmj : 0 ≤ s.job ∧ s.job < p.jobs.length) (hmc : 0 ≤ s.court ∧ s.court < 3) (d : DS) (B : Int) (hd : d.Ok B) (hB : 1440 ≤ B ∧ B ≤ 100000) (he : ∀ i, 0 < d.en i → i < p.jobs.length) (len : Int) (hlen : 0 ≤ len ∧ len ≤ 600) (bd done : Nat) :
    Tr Tryz.prog 69 [.pointer (some ⟨bd, 0, none⟩), p.val, s.val, .int .i64 len] [.blk bd 157 (stC d done), manyE false (pgU p)] (fun _ : Unit => True) (fun _ => .tuple #[.int .i64 (begV p d s), .int .i64 (begV p d s + len)]) (fun _ => [.blk bd 157 (stC (playD p d s len) done), manyE false (pgU p)]) := by
  refine ⟨fun w0 w R hst => ?_⟩
  have hnj := hp.nj
  have hre := hp.rest
  have hjo := hp.jb s.job.toNat j (by omega) hj
  have hje := hjo.ear
  have hear : p.ear s.job = j.ear := by unfold Pg.ear; rw [hj]
  have hbv : begV p d s = begTil p d s j.ear 6 := by unfold begV; rw [hear]
  have hfc : (stC d done)[1 + s.court.toNat * 1]? = some (.int .i64 (d.fr s.court.toNat)) := by rw [Nat.mul_one]; exact fr_at12 d done (by omega)
  have hb0 : begTil p d s j.ear 0 = max (d.fr s.court.toNat) j.ear := rfl
  have hbr := begTil_rng p hre hd hB.1 s hje 6
  refine en Tryz.func69 Tryz.ntmps69 hst (h := fun F => ?_)
  refine sq (h := ?_)
  refine rg (h := ?_)
  refine bxA (h := fun b0 => ?_)
  refine bxA (h := fun b1 => ?_)
  refine wy asg ?_
  refine WL.cut (by repeat (first | exact Cut.nil | apply Cut.hit | apply Cut.miss (by exact rfl))) ?_
  refine wy asg ?_
  refine WL.cut (by repeat (first | exact Cut.nil | apply Cut.hit | apply Cut.miss (by exact rfl))) ?_
  refine nl (h := ?_)
  refine q_seq (h := ?_)
  refine sq (h := ?_)
  refine WC.getRowF (pgU_j p) atz_ ?_
  refine rgD (by kernel_rfl) [(1000000, .blk bd 157 (stC d done)), (1000000, .ro p.jA 6 p.jobs.length (encJb p.jobs)), (1000000, .blk b0 39 p.cells), (1000000, .blk b1 48 s.cells)] (by repeat (first | exact HS.nil | (apply HS.keep; (repeat (first | exact At.here | apply At.there))) | (apply HS.ro; (repeat (first | exact Rds.ro | exact Rds.own | apply Rds.there))))) (h := ?_)
  refine tk 0 (hy := mv) (h := ?_)
  refine tk 1 (hy := (by first | exact fa | exact faE)) (h := ?_)
  refine tk 2 (hy := (by first | exact ld | exact ldE)) (h := ?_)
  refine tk 3 (hy := nck) (h := ?_)
  refine tk 4 (hy := (by first | exact fa | exact faE)) (h := ?_)
  refine tk 5 (hy := ixA (hb := by omega)) (h := ?_)
  refine tk 6 (hy := ld (hc := hfc)) (h := ?_)
  refine tk 7 (hy := (by first | exact fa | exact faE)) (h := ?_)
  refine tk 8 (hy := (by first | exact ld | exact ldE)) (h := ?_)
  refine tk 9 (hy := (by first | exact fa | exact faE)) (h := ?_)
  refine tk 10 (hy := (by first | exact ld | exact ldE)) (h := ?_)
  refine tk 11 (hy := ix (A := p.jA) (m := p.jobs.length) (hb := by omega)) (h := ?_)
  refine tk 12 (hy := (by first | exact fa | exact faE)) (h := ?_)
  refine tk 13 (hy := ldE (A := p.jA) (hk := encJb_at hj)) (h := ?_)
  refine tk 14 (hy := maxI) (h := ?_)
  refine tk 15 (hy := asg) (h := ?_)
  refine dn (h := ?_)
  refine q_seq (h := ?_)
  refine sq (h := ?_)
  refine sq (h := ?_)
  refine rg (h := ?_)
  refine wy mv ?_
  refine wy nck ?_
  refine wy (by first | exact fa | exact faE) ?_
  refine wy (by first | exact ldA | exact ldEA) ?_
  refine wy mv ?_
  refine nl (h := ?_)
  refine q_seq (h := ?_)
  refine bk (h := ?_)
  refine lp (X := Nat) (I := fun k => k ≤ 6) (le := fun k => [(0, .pointer (some ⟨bd, 0, none⟩)), (3, .int .i64 len), (5, .pointer (some ⟨b0, 0, none⟩)), (6, .pointer (some ⟨b1, 0, none⟩)), (8, .int .i64 (begTil p d s j.ear k)), (30, .agg #[.int .i64 (d.en 0), .int .i64 (d.en 1), .int .i64 (d.en 2), .int .i64 (d.en 3), .int .i64 (d.en 4), .int .i64 (d.en 5)]), (31, .int .i64 k)]) (Le := fun _ => .blk bd 157 (stC d done) :: manyE false (pgU p) :: .blk b0 39 p.cells :: .blk b1 48 s.cells :: R) (μ := fun k => 6 - k) 0 (Nat.zero_le _) sbz_ slz_ (fun k hk => ?_)
  refine sq (h := ?_)
  refine rg (h := ?_)
  refine wy lss ?_
  refine nl (h := ?_)
  refine q_seq (h := ?_)
  refine sq (h := ?_)
  refine cd (by exact rfl) (fun h0 => ?_) (fun h0 => ?_)
  · skip
    have hk6 : k < 6 := by have := of_decide_eq_true h0; omega
    have hev := enV_at d hk6
    have hek := hd.eb k
    have hbk := begTil_rng p hre hd hB.1 s hje k
    have hbe : begTil p d s j.ear (k + 1) = begK p d s.job (begTil p d s j.ear k) k := rfl
    refine skp (h := ?_)
    refine q_seq (h := ?_)
    refine sq (h := ?_)
    refine bk (h := ?_)
    refine sq (h := ?_)
    refine rg (h := ?_)
    refine wy mv ?_
    refine wy (ixvI (hb := by omega) (hv := by rw [Int.toNat_natCast]; simpa using hev)) ?_
    refine wy asg ?_
    refine WL.cut (by repeat (first | exact Cut.nil | apply Cut.hit | apply Cut.miss (by exact rfl))) ?_
    refine wy asg ?_
    refine WL.cut (by repeat (first | exact Cut.nil | apply Cut.hit | apply Cut.miss (by exact rfl))) ?_
    refine nl (h := ?_)
    refine q_seq (h := ?_)
    refine sq (h := ?_)
    refine rg (h := ?_)
    refine wy mv ?_
    refine wy gtr ?_
    refine wy mv ?_
    apply brAnd 6 37 43 (by exact rfl)
    · intro hb1
      have hpos : 0 < d.en k := of_decide_eq_true hb1
      have hkj := he k hpos
      obtain ⟨jk, hjk⟩ : ∃ jk, p.jobs[((k : Int)).toNat]? = some jk := ⟨_, List.getElem?_eq_getElem (by omega)⟩
      refine un (h := ?_)
      refine wy (by first | exact ldA | exact ldEA) ?_
      refine un (h := ?_)
      refine wy (by first | exact fa | exact faE) ?_
      refine un (h := ?_)
      refine wy (by first | exact ld | exact ldE) ?_
      refine un (h := ?_)
      refine wy mv ?_
      refine un (h := ?_)
      refine cl0 (hc := fun w hS => C_play_share p s.job k j jk hmj (by omega) hj hjk w (PgR.of (fun r hr => hS.many atz_ hr) hn)) (h := ?_)
      refine wy (by first | exact pkT | exact pkF) ?_
      exact mg (by repeat (first | exact trivial | refine ⟨rfl, ?_⟩ | refine ⟨by rw [hb1]; rfl, ?_⟩)) slz_
    · intro hb1
      repeat (first | refine un (h := ?_) | refine sk (h := ?_) | refine WL.y (hy := pkF) (h := ?_) | refine WL.y (hy := pkT) (h := ?_))
      exact mg (by repeat (first | exact trivial | refine ⟨rfl, ?_⟩ | refine ⟨by rw [hb1]; rfl, ?_⟩)) slz_
    refine nl (h := ?_)
    refine q_seq (h := ?_)
    refine cd (by exact rfl) (fun h2 => ?_) (fun h2 => ?_)
    · skip
      have hE : begTil p d s j.ear (k + 1) = max (begTil p d s j.ear k) (d.en k + p.rest) := by rw [hbe, begK, h2]; rfl
      refine rg (h := ?_)
      refine wy mv ?_
      refine wy mv ?_
      refine wy (by first | exact fa | exact faE) ?_
      refine wy (by first | exact ld | exact ldE) ?_
      refine wy (addI (hb := by omega)) ?_
      refine wy maxI ?_
      refine wy asg ?_
      refine WL.cut (by repeat (first | exact Cut.nil | apply Cut.hit | apply Cut.miss (by exact rfl))) ?_
      refine nl (h := ?_)
      refine q_blk_norm (h := ?_)
      refine q_seq (h := ?_)
      refine rg (h := ?_)
      refine wy addI ?_
      refine wy mv ?_
      refine nl (h := ?_)
      refine rn (x := k) (k + 1) hk6 (by omega) (by rw [hE]; repeat (first | exact trivial | refine ⟨rfl, ?_⟩)) slz_
    · skip
      have hE : begTil p d s j.ear (k + 1) = begTil p d s j.ear k := by rw [hbe, begK, h2]; rfl
      refine skp (h := ?_)
      refine q_blk_norm (h := ?_)
      refine q_seq (h := ?_)
      refine rg (h := ?_)
      refine wy addI ?_
      refine wy mv ?_
      refine nl (h := ?_)
      refine rn (x := k) (k + 1) hk6 (by omega) (by rw [hE]; repeat (first | exact trivial | refine ⟨rfl, ?_⟩)) slz_
  · skip
    have hk6 : k = 6 := by have := of_decide_eq_false h0; omega
    rw [hk6, ← hbv]
    rw [← hbv] at hbr
    refine et (h := ?_)
    refine q_then_exit (h := ?_)
    refine q_then_exit (h := ?_)
    refine q_blk_hit (h := ?_)
    refine q_seq (h := ?_)
    refine sq (h := ?_)
    refine rg (h := ?_)
    refine wy mv ?_
    refine wy mv ?_
    refine wy (addI (hb := by omega)) ?_
    refine wy asg ?_
    refine WL.cut (by repeat (first | exact Cut.nil | apply Cut.hit | apply Cut.miss (by exact rfl))) ?_
    refine nl (h := ?_)
    refine q_seq (h := ?_)
    refine sq (h := ?_)
    refine rgD (by kernel_rfl) [(1000000, .blk b1 48 s.cells)] (by repeat (first | exact HS.nil | (apply HS.keep; (repeat (first | exact At.here | apply At.there))) | (apply HS.ro; (repeat (first | exact Rds.ro | exact Rds.own | apply Rds.there))))) (h := ?_)
    refine tk 0 (hy := mv) (h := ?_)
    refine tk 1 (hy := (by first | exact fa | exact faE)) (h := ?_)
    refine tk 2 (hy := (by first | exact ld | exact ldE)) (h := ?_)
    refine tk 3 (hy := mv) (h := ?_)
    refine tk 4 (hy := (by first | exact fa | exact faE)) (h := ?_)
    refine tk 5 (hy := (by first | exact ld | exact ldE)) (h := ?_)
    refine tk 6 (hy := mv) (h := ?_)
    refine tk 7 (hy := mv) (h := ?_)
    refine tk 8 (hy := nck) (h := ?_)
    refine tk 9 (hy := (by first | exact fa | exact faE)) (h := ?_)
    refine tk 12 (hy := nck) (h := ?_)
    refine tk 13 (hy := (by first | exact fa | exact faE)) (h := ?_)
    refine one 10 (h := ?_)
    refine wy (ixA (hb := by omega)) ?_
    refine nx (h := ?_)
    refine one 11 (h := ?_)
    refine stI (ho := by show 1 + s.court.toNat * 1 < 12; omega) (h := ?_)
    rw [show 1 + s.court.toNat * 1 = 1 + s.court.toNat by omega, fr_set12 d done (by omega)]
    refine nx (h := ?_)
    refine one 14 (h := ?_)
    refine wy (ixA (hb := by omega)) ?_
    refine nx (h := ?_)
    refine one 15 (h := ?_)
    refine stI (ho := by show 4 + s.job.toNat * 1 < 12; omega) (h := ?_)
    rw [show 4 + s.job.toNat * 1 = 4 + s.job.toNat by omega, en_set12 ⟨d.num, upF d.fr s.court.toNat (begV p d s + len), d.en⟩ done (by omega)]
    refine nx (h := ?_)
    refine dn (h := ?_)
    refine q_seq (h := ?_)
    refine sq (h := ?_)
    refine rg (h := ?_)
    refine wy mv ?_
    refine wy mv ?_
    refine wy asg ?_
    refine WL.cut (by repeat (first | exact Cut.nil | apply Cut.hit | apply Cut.miss (by exact rfl))) ?_
    refine wy asg ?_
    refine WL.cut (by repeat (first | exact Cut.nil | apply Cut.hit | apply Cut.miss (by exact rfl))) ?_
    refine nl (h := ?_)
    refine q_seq (h := ?_)
    refine rtn (h := ?_)
    refine q_ret (hR := ?_)
    exact fun w hS => ⟨(), trivial, rfl, hS.sub slz_⟩
theorem C_state_has (d : DS) (done j : Nat) (hd : done < 64) (hj : j < 6) (w : World) : C0 Tryz.prog 97 [stV d done, .int .i64 j] w (.bool (done.testBit j)) := by
  have hb := bit_has done j hd hj
  refine ⟨en Tryz.func97 Tryz.ntmps97 (St.init w) (h := fun F => ?_)⟩
  refine sq (h := ?_)
  refine rg (h := ?_)
  refine bxA (h := fun b0 => ?_)
  refine wy asg ?_
  refine nl (h := ?_)
  refine q_seq (h := ?_)
  refine sq (h := ?_)
  refine rg (h := ?_)
  refine wy (by first | exact fa | exact faE) ?_
  refine wy (by first | exact ld | exact ldE) ?_
  refine wy mv ?_
  refine wy (shrE rfl) ?_
  refine wy andI ?_
  rw [show andV ((done : Int) / 2 ^ ((j : Int)).toNat) 1 = bif done.testBit j then 1 else 0 from hb]
  refine wy eql ?_
  refine wy asg ?_
  refine nl (h := ?_)
  refine q_seq (h := ?_)
  refine rtn (h := ?_)
  refine q_ret (hR := ?_)
  exact fun w hS => ⟨by cases done.testBit j <;> rfl, hS.sub .nil⟩
abbrev seC (p : Pg) (days : Int) (mb : Nat) : List Value := [.slice p.dA p.days.length p.dc, .int .i64 p.rest, .slice p.jA p.jobs.length p.jc, .int .i64 days, .slice none 0 0, .map (some mb)]
theorem T_move (p : Pg) (days : Int) (sb mb : Nat) (s : Se) : Tr Tryz.prog 98 [.pointer (some ⟨sb, 0, none⟩), s.val] [.blk sb 154 (seC p days mb)] (fun _ : Unit => True) (fun _ => .int .i64 0) (fun _ => [.blk sb 154 (seC p days mb)]) := by
  refine ⟨fun w0 w R hst => ?_⟩
  refine en Tryz.func98 Tryz.ntmps98 hst (h := fun F => ?_)
  refine sq (h := ?_)
  refine rg (h := ?_)
  refine bxA (h := fun b0 => ?_)
  refine wy asg ?_
  refine nl (h := ?_)
  refine q_seq (h := ?_)
  refine sq (h := ?_)
  refine sq (h := ?_)
  refine rgD (by kernel_rfl) [(1000000, .blk sb 154 (seC p days mb)), (1000000, .blk b0 48 s.cells)] (by repeat (first | exact HS.nil | (apply HS.keep; (repeat (first | exact At.here | apply At.there))) | (apply HS.ro; (repeat (first | exact Rds.ro | exact Rds.own | apply Rds.there))))) (h := ?_)
  refine tk 0 (hy := mv) (h := ?_)
  refine tk 1 (hy := nck) (h := ?_)
  refine tk 2 (hy := (by first | exact fa | exact faE)) (h := ?_)
  refine tk 3 (hy := (by first | exact ld | exact ldE)) (h := ?_)
  refine tk 4 (hy := (Yd.tr (eqlN) (by rfl))) (h := ?_)
  refine tk 5 (hy := mv) (h := ?_)
  refine tkS 6 (h := ?_)
  refine tkS 7 (h := ?_)
  refine tkS 8 (h := ?_)
  refine tkS 9 (h := ?_)
  refine tkS 10 (h := ?_)
  refine tkS 11 (h := ?_)
  refine tk 12 (hy := (by first | exact pkT | exact pkF)) (h := ?_)
  refine dn (h := ?_)
  refine q_seq (h := ?_)
  refine cdT (h := ?_)
  refine sq (h := ?_)
  refine rg (h := ?_)
  refine wy asg ?_
  refine nl (h := ?_)
  refine q_seq (h := ?_)
  refine rtn (h := ?_)
  refine q_then_ret (h := ?_)
  refine q_ret (hR := ?_)
  exact fun w hS => ⟨(), trivial, rfl, hS.sub slz_⟩
end Go.Proofs.YtmlhnajgiopfgaaGreat

namespace Go.Proofs.YtmlhnajgiopfgaaGreat
open Go Go.RowKit

section
variable {P : Program} {b : Frame} {a : Act} {k : List Item} {cs : List Frame} {w : World}
theorem stepR_scope {c : Code} : step P (lone (b.atR a (.code (.scope c) :: k)) cs w) = .next (lone (b.atR a (.code c :: .inScope c :: k)) cs w) :=
  step_lone_go (by simp [stepG, stepG.exec, Frame.atR])
theorem stepR_inScope {c : Code} : step P (lone (b.atR a (.inScope c :: k)) cs w) = .next (lone (b.atR a k) cs w) :=
  step_lone_go (by simp [stepG, stepG.exec, Frame.atR])
theorem wpIn_scope {F : Fence} {n : Nat} {c : Code} {Q : Exit → Act → World → Prop} (h : c.wpIn F n P (Exit.noGoto Q) a w) : (Code.scope c).wpIn F n P Q a w := by
  intro b k cs hro hb hr
  have h0 : (lone (b.atR a (.code (.scope c) :: k)) cs w).fenced P F := fenced_calm hb hr rfl
  obtain ⟨e, a₁, w₁, hq, harr⟩ := h b (.inScope c :: k) cs hro hb hr
  cases e with
  | normal => exact ⟨.normal, a₁, w₁, hq, .head h0 stepR_scope (StepsIn.trans harr (.one (fenced_calm hb hr rfl) stepR_inScope))⟩
  | exit id =>
    have hx : exitTo id (.inScope c :: k) = exitTo id k := by simp [exitTo]
    exact ⟨.exit id, a₁, w₁, hq, fun k' hk => .head h0 stepR_scope (harr.1 k' (by rw [hx]; exact hk)),
      fun hr' hk => let ⟨k₁, h1, h2⟩ := harr.2 hr' (by rw [hx]; exact hk); ⟨k₁, h1, .head h0 stepR_scope h2⟩⟩
  | goto l => exact hq.elim
  | ret => exact ⟨_, a₁, w₁, hq, .of_steps (.one h0 stepR_scope) harr⟩
  | panic ch => exact ⟨_, a₁, w₁, hq, .of_steps (.one h0 stepR_scope) harr⟩
  | outgrown => exact ⟨_, a₁, w₁, hq, .of_steps (.one h0 stepR_scope) harr⟩
end
section rules
variable {F : Fence} {P : Program} {Q : Exit → Act → World → Prop} {n : Nat} {D : List Deferred} {l : Env} {w0 : World} {L : List Ent}
theorem scp {c : Code} (h : WC F P c (Exit.noGoto Q) n D l w0 L) : WC F P (.scope c) Q n D l w0 L := fun hF a w hfr hst => wpIn_scope (h hF a w hfr hst)
theorem lbl {i : Nat} (h : WQ F P Q .normal n D l w0 L) : WC F P (.label i) Q n D l w0 L := fun hF a w hfr hst => wpIn_label (h hF a w hfr hst)
theorem q_sc_ret (h : WQ F P Q .ret n D l w0 L) : WQ F P (Exit.noGoto Q) .ret n D l w0 L := h
end rules
end Go.Proofs.YtmlhnajgiopfgaaGreat

namespace Go.Proofs.YtmlhnajgiopfgaaGreat
open Go Go.RowKit

section rules
variable {F : Fence} {P : Program} {ops : Array Oper} {Q : Exit → Act → World → Prop} {rest : List Oper} {n : Nat} {D : List Deferred} {l : Env} {w0 : World} {L M : List Ent}
theorem lkE {m x : Operand} {t kt e : TypeId} {ks : List Bool} {agg : Bool} {size bytes : Nat} {z : Value} {zl : List Value} (hT : MapTy P t kt e := by infer_instance) (hK : FlatTy P kt ks := by infer_instance) (hE : Ty P e agg size bytes z zl := by infer_instance) {b : Nat} {es : Array MapEntry} {c : Nat} {kv : List (List Fl × Value)} {cs : List Value} {k : List Fl} {v : Value}
    (hm : MapIs es kv) (hs : ∀ p ∈ kv, shapeOf p.1 = ks) (hv : (lkp kv k).getD z = v) (hx : ev l m = some (.map (some b)) := by exact rfl) (hy : ev l x = some (.agg cs.toArray) := by exact rfl) (hl : FlL cs k := by repeat (first | exact FlL.nil | apply FlL.int | apply FlL.bool)) (hk : shapeOf k = ks := by rfl)
    (ha : At L (.obj b (.map es c)) M := by repeat (first | exact At.here | apply At.there)) : Yd P n D l w0 L (.lookup t m x false) v := by
  have h := lkN (P := P) (n := n) (D := D) (w0 := w0) (hT := hT) (hK := hK) (hE := hE) (hm := hm) (hs := hs) (hx := hx) (hy := hy) (hl := hl) (hk := hk) (ha := ha)
  rw [hv] at h
  exact h
theorem orE {x y : Operand} {a b v : Int} {t u : TypeId} (he : orV a b = v) (hx : ev l x = some (.int .i64 a) := by exact rfl) (hy : ev l y = some (.int .i64 b) := by exact rfl) : Yd P n D l w0 L (.binOp .or t x y u) (.int .i64 v) := he ▸ orI (hx := hx) (hy := hy)
end rules
theorem look_int {x : WnX} (h : SeenS x) (k : List Fl) : ∃ v : Int, (lkp x.kv k).getD (.int .i64 0) = .int .i64 v ∧ (¬ k ∈ keysX x → v = 0) := by
  cases e : lkp x.kv k with
  | none => exact ⟨0, rfl, fun _ => rfl⟩
  | some u =>
    have hin : k ∈ keysX x := lkp_key.1 (by rw [e]; rfl)
    obtain ⟨p, hp, rfl⟩ := lkp_in e
    obtain ⟨v, hv⟩ := h.i p hp
    exact ⟨v, hv, fun h9 => absurd hin h9⟩
theorem look_int2 {x : WnX} (h : SeenS x) (k : List Fl) {kv : List (List Fl × Value)} (hp : ∀ p ∈ kv, p ∈ x.kv ∨ p = (k, .int .i64 0)) : ∃ v : Int, (lkp kv k).getD (.int .i64 0) = .int .i64 v ∧ (¬ k ∈ keysX x → v = 0) := by
  unfold lkp
  cases e : kv.find? fun p => decide (k = p.1) with
  | none => exact ⟨0, rfl, fun _ => rfl⟩
  | some p =>
    have h1 := List.mem_of_find?_eq_some e
    have h2 : k = p.1 := of_decide_eq_true (List.find?_some (p := fun p : List Fl × Value => decide (k = p.1)) e)
    rcases hp p h1 with h3 | h3
    · obtain ⟨v, hv⟩ := h.i p h3
      exact ⟨v, hv, fun h9 => absurd (h2 ▸ List.mem_map.2 ⟨p, h3, rfl⟩) h9⟩
    · subst h3; exact ⟨0, rfl, fun _ => rfl⟩
theorem shape2 {x : WnX} (h : SeenS x) {k : List Fl} (hk : shapeOf k = ks12) {kv : List (List Fl × Value)} (hp : ∀ p ∈ kv, p ∈ x.kv ∨ p = (k, Value.int .i64 0)) : ∀ p ∈ kv, shapeOf p.1 = ks12 := fun p h1 => by
  rcases hp p h1 with h3 | h3
  · exact h.s p h3
  · subst h3; exact hk
structure AftI (x : WnX) (k : List Fl) (z : WnX × Int) : Prop where
  s : SeenS z.1
  kv : z.1.kv = updM x.kv k (.int .i64 z.2)
  one : ¬ k ∈ keysX x → z.2 = 1
theorem AftI.mk' {x : WnX} (h : SeenS x) {k : List Fl} (hk : shapeOf k = ks12) {v : Int} (hv : ¬ k ∈ keysX x → v = 0) {es' : Array MapEntry} {c' : Nat} (hm : MapIs es' (updM x.kv k (.int .i64 (IntKind.i64.wrap (v + 1))))) (ht : Stm es' c') : AftI x k (⟨es', c', updM x.kv k (.int .i64 (IntKind.i64.wrap (v + 1)))⟩, IntKind.i64.wrap (v + 1)) :=
  ⟨h.put hk ⟨_, rfl⟩ hm ht, rfl, fun h9 => by show IntKind.i64.wrap (v + 1) = 1; rw [hv h9]; rfl⟩
theorem AftI.look {x : WnX} {k : List Fl} {z : WnX × Int} (h : AftI x k z) : (lkp z.1.kv k).getD (.int .i64 0) = .int .i64 z.2 := by rw [h.kv, lkp_upd, if_pos rfl]; rfl
theorem AftI.key {x : WnX} {k k' : List Fl} {z : WnX × Int} (h : AftI x k z) : k' ∈ keysX z.1 ↔ k' ∈ keysX x ∨ k' = k := by
  show k' ∈ z.1.kv.map Prod.fst ↔ _
  rw [h.kv]
  exact key_put (es' := #[]) (c' := 0)
theorem AftI.again {p : Pg} {days : Int} {x : WnX} {d : DS} {done : Nat} {z : WnX × Int} (h : AftI x (stK d done) z) (hin : stK d done ∈ keysX x) (hD : DeadFrom p days x (lev p.jobs.length done)) : DeadFrom p days z.1 (lev p.jobs.length done) ∧ NewFrom p x z.1 (lev p.jobs.length done) := by
  refine ⟨fun d' done' h1 h2 h3 => ?_, fun d' done' h1 h2 => ?_⟩
  · rcases h.key.1 h2 with h4 | h4
    · exact hD d' done' h1 h4 h3
    · exact hD d' done' h1 (h4 ▸ hin) h3
  · rcases h.key.1 h2 with h4 | h4
    · exact .inl h4
    · exact .inl (h4 ▸ hin)
theorem AftI.tried {p : Pg} {days : Int} {x : WnX} {d : DS} {done : Nat} {z : WnX × Int} (h : AftI x (stK d done) z) (hd : Nrm d) (hD : DeadFrom p days x (lev p.jobs.length done)) : TryI p days x d done z.1 := by
  refine ⟨h.s, fun d' done' h1 h2 h3 => ?_, fun d' done' h1 h2 => ?_⟩
  · rcases h.key.1 h2 with h4 | h4
    · exact hD d' done' h1 h4 (by omega)
    · have := (stK_inj h4 h1 hd).2
      subst this
      omega
  · rcases h.key.1 h2 with h4 | h4
    · exact .inl h4
    · exact .inr (.inl h4)
theorem C_state_hasZ (d : DS) (done j : Nat) (z : Int) (hz : z = j) (hd : done < 64) (hj : j < 6) (w : World) : C0 Tryz.prog 97 [stV d done, .int .i64 z] w (.bool (done.testBit j)) := by
  subst hz
  exact C_state_has d done j hd hj w

structure FrX where
  (o : List Se) (b : Bool) (A : Option Addr) (c : Nat) (y : WnX)
structure StOk (p : Pg) (d : DS) (done : Nat) : Prop where
  nrm : Nrm d
  ok : d.Ok (1440 + 1200 * (lev p.jobs.length done : Nat))
  pos : ∀ i, 0 < d.en i → i < p.jobs.length
  num : 0 ≤ d.num
  lt : done < 2 ^ p.jobs.length
structure FrI (p : Pg) (days : Int) (x : WnX) (d : DS) (done : Nat) (q : FrX) : Prop where
  s : SeenS q.y
  t : q.b = true → Pth p days d (bitF done) q.o
  f : q.b = false → (DeadFrom p days q.y (lev p.jobs.length done) ∧ NewFrom p x q.y (lev p.jobs.length done)) ∧ Dead p days d (bitF done)
  n : q.o.length + lev p.jobs.length done ≤ p.jobs.length
def FromOk (p : Pg) (days : Int) (sb mb N : Nat) : Prop := ∀ (d : DS) (done : Nat) (x : WnX), SeenS x → StOk p d done → p.jobs.length < N + lev p.jobs.length done → DeadFrom p days x (lev p.jobs.length done) →
  Tr Tryz.prog 77 [.pointer (some ⟨sb, 0, none⟩), stV d done] [.blk sb 154 (seC p days mb), .obj mb (.map x.es x.c), manyE false (pgU p)] (FrI p days x d done) (fun q => .tuple #[.slice q.A q.o.length q.c, .bool q.b]) (fun q => [.blk sb 154 (seC p days mb), .obj mb (.map q.y.es q.y.c), manyE false (pgU p), .own q.A q.c 48 3 q.o.length (encSe q.o)])
theorem StOk.next {p : Pg} (hp : POk p) {d : DS} {done k : Nat} (h : StOk p d done) (hk : k < p.jobs.length) (hb : done.testBit k = false) {j : Jb} (hj : p.jobs[k]? = some j) {n c : Int} (hn : 0 ≤ n) (hc : c.toNat < 3) : StOk p (playD p (dayAt p d n) ⟨k, n, c⟩ j.len.2) (done ||| 2 ^ k) ∧ (dayAt p d n).Ok (1440 + 1200 * (lev p.jobs.length done : Nat)) ∧ (∀ i, 0 < (dayAt p d n).en i → i < p.jobs.length) ∧ lev p.jobs.length (done ||| 2 ^ k) = lev p.jobs.length done + 1 := by
  have hnj := hp.nj
  have hjo := hp.jb k j hk hj
  have hlv := lev_put hb p.jobs.length
  rw [if_pos hk] at hlv
  have hlo := hjo.len
  have hOk : (dayAt p d n).Ok (1440 + 1200 * (lev p.jobs.length done : Nat)) := by
    unfold dayAt
    split
    · exact h.ok
    · exact (open_ok hp n).mono (by omega)
  have hPos : ∀ i, 0 < (dayAt p d n).en i → i < p.jobs.length := fun i hi => by
    unfold dayAt at hi
    split at hi
    · exact h.pos i hi
    · exact absurd hi (by show ¬ (0 : Int) < 0; omega)
  refine ⟨⟨nrm_play (nrm_day hp h.nrm n) hc (by show ((k : Nat) : Int).toNat < 6; omega), ?_, fun i hi => ?_, ?_, put_lt_pow h.lt hk⟩, hOk, hPos, hlv⟩
  · have hb : begV p (dayAt p d n) ⟨k, n, c⟩ = begTil p (dayAt p d n) ⟨k, n, c⟩ j.ear 6 := by
      unfold begV Pg.ear
      rw [show (⟨k, n, c⟩ : Se).job.toNat = k from Int.toNat_natCast k, hj]
    have hr := begTil_rng p hp.rest hOk (by omega) ⟨k, n, c⟩ hjo.ear 6
    rw [← hb] at hr
    rw [hlv]
    exact hOk.put (by push_cast; omega) (by show ((k : Nat) : Int).toNat < 6; omega) (by push_cast; omega)
  · have hi2 : 0 < upF (dayAt p d n).en ((k : Nat) : Int).toNat (begV p (dayAt p d n) ⟨k, n, c⟩ + j.len.2) i := hi
    rw [Int.toNat_natCast] at hi2
    unfold upF at hi2
    split at hi2
    · omega
    · exact hPos i hi2
  · show 0 ≤ (dayAt p d n).num
    rw [day_num]; exact hn
structure FlZ where
  (k : Nat) (y : WnX)
structure FdZ where
  (n : Int) (y : WnX)
end Go.Proofs.YtmlhnajgiopfgaaGreat

namespace Go.Proofs.YtmlhnajgiopfgaaGreat
open Go Go.RowKit

theorem nat_pow_cast (n : Nat) : ((2 ^ n : Nat) : Int) = 2 ^ ((n : Nat) : Int).toNat := by rw [Int.toNat_natCast]; push_cast; rfl
set_option maxRecDepth 100000 in
set_option maxHeartbeats 4000000 in
theorem from_step (p : Pg) (hp : POk p) (hN : PgN p) (days : Int) (hdays : 0 ≤ days ∧ days ≤ p.days.length) (sb mb N : Nat) (IH : FromOk p days sb mb N) : FromOk p days sb mb (N + 1) := by
  intro d done x hx hSt hfuel hD
  refine ⟨fun w0 w R hst => ?_⟩
  have hnj := hp.nj
  have hnd := hp.nd
  have hnc := hp.nc
  have hlvl := lev_le p.jobs.length done
  have hdlt := hSt.lt
  have hpw : 2 ^ p.jobs.length ≤ 64 := Nat.pow_le_pow_right (n := 2) (by omega) hnj
  have hpc := nat_pow_cast p.jobs.length
  have hnum := hSt.num
  obtain ⟨v1, hv1, hz1⟩ := look_int hx (stK d done)
  refine en Tryz.func77 Tryz.ntmps77 hst (h := fun F => ?_)
  refine sq (h := ?_)
  refine rg (h := ?_)
  refine bxA (h := fun b0 => ?_)
  refine wy asg ?_
  refine WL.cut (by repeat (first | exact Cut.nil | apply Cut.hit | apply Cut.miss (by exact rfl))) ?_
  refine wy asg ?_
  refine WL.cut (by repeat (first | exact Cut.nil | apply Cut.hit | apply Cut.miss (by exact rfl))) ?_
  refine nl (h := ?_)
  refine q_seq (h := ?_)
  refine scp (h := ?_)
  refine sq (h := ?_)
  refine sq (h := ?_)
  refine rgD (by kernel_rfl) [(1000000, .blk b0 157 (stC d done)), (1000000, .blk sb 154 (seC p days mb))] (by repeat (first | exact HS.nil | (apply HS.keep; (repeat (first | exact At.here | apply At.there))) | (apply HS.ro; (repeat (first | exact Rds.ro | exact Rds.own | apply Rds.there))))) (h := ?_)
  refine tk 0 (hy := (by first | exact fa | exact faE)) (h := ?_)
  refine tk 1 (hy := (by first | exact ld | exact ldE)) (h := ?_)
  refine tk 2 (hy := mv) (h := ?_)
  refine tk 3 (hy := nck) (h := ?_)
  refine tk 4 (hy := (by first | exact fa | exact faE)) (h := ?_)
  refine tk 5 (hy := (by first | exact fa | exact faE)) (h := ?_)
  refine tk 6 (hy := (by first | exact ld | exact ldE)) (h := ?_)
  refine tk 7 (hy := lenS) (h := ?_)
  refine tk 8 (hy := shlI (hb := by omega)) (h := ?_)
  refine tk 9 (hy := subI (hb := by omega)) (h := ?_)
  refine tk 10 (hy := eql) (h := ?_)
  refine dn (h := ?_)
  refine q_seq (h := ?_)
  refine cd (by exact rfl) (fun h0 => ?_) (fun h0 => ?_)
  · skip
    have hdn : done = 2 ^ p.jobs.length - 1 := by have h9 := of_decide_eq_true h0; omega
    refine sq (h := ?_)
    refine WC.nilOwn 48 3 (h := ?_)
    refine rg (h := ?_)
    refine wy asg ?_
    refine WL.cut (by repeat (first | exact Cut.nil | apply Cut.hit | apply Cut.miss (by exact rfl))) ?_
    refine wy asg ?_
    refine WL.cut (by repeat (first | exact Cut.nil | apply Cut.hit | apply Cut.miss (by exact rfl))) ?_
    refine nl (h := ?_)
    refine q_seq (h := ?_)
    refine rtn (h := ?_)
    refine q_then_ret (h := ?_)
    refine q_sc_ret (h := ?_)
    refine q_ret (hR := ?_)
    exact fun w hS => ⟨⟨[], true, none, 0, x⟩, ⟨hx, fun _ k hk => by rw [hdn]; exact done_all hk, fun h9 => (by cases h9), by dsimp only [List.length_nil]; omega⟩, rfl, hS.sub slz_⟩
  · skip
    have hdn : done ≠ 2 ^ p.jobs.length - 1 := by have h9 := of_decide_eq_false h0; omega
    refine skp (h := ?_)
    refine q_seq (h := ?_)
    refine sq (h := ?_)
    refine ct (X := WnX × Int) (fun z => AftI x (stK d done) z) (fun _ => [(0, .pointer (some ⟨sb, 0, none⟩)), (3, .pointer (some ⟨b0, 0, none⟩))]) (fun z => .obj mb (.map z.1.es z.1.c) :: .blk b0 157 (stC d done) :: .blk sb 154 (seC p days mb) :: manyE false (pgU p) :: R) (h1 := ?_) (h2 := ?_)
    · skip
      refine rgD (by kernel_rfl) [(1000000, .blk b0 157 (stC d done)), (1000000, .blk sb 154 (seC p days mb))] (by repeat (first | exact HS.nil | (apply HS.keep; (repeat (first | exact At.here | apply At.there))) | (apply HS.ro; (repeat (first | exact Rds.ro | exact Rds.own | apply Rds.there))))) (h := ?_)
      refine tk 0 (hy := mv) (h := ?_)
      refine tk 1 (hy := nck) (h := ?_)
      refine tk 2 (hy := (by first | exact fa | exact faE)) (h := ?_)
      refine tk 3 (hy := (by first | exact ld | exact ldE)) (h := ?_)
      refine tk 4 (hy := (by first | exact ldA | exact ldEA)) (h := ?_)
      refine two 5 7 (h1 := ?_) (h2 := ?_)
      · skip
        first
          | refine WL.y (hy := lkE (b := mb) (k := stK d done) (hm := hm2) (hs := hs2) (hv := hv2)) (h := ?_)
          | refine WL.y (hy := lkE (b := mb) (k := stK d done) (hm := hx.m) (hs := hx.s) (hv := hv1)) (h := ?_)
        refine nx (h := ?_)
        refine tk 6 (hy := addW) (h := ?_)
        refine one 7 (h := ?_)
        refine mpX (b := mb) (es := x.es) (c := x.c) (k := stK d done) (hm := hx.m) (hs := hx.s) (hst0 := hx.t) (h := fun es2 c2 vv2 s2 kv2 j2 hm2 ht2 hj2 hu2 hp2 => ?_)
        have hs2 := shape2 hx (k := stK d done) rfl hp2
        obtain ⟨v2, hv2, hz2⟩ := look_int2 hx (stK d done) hp2
        refine nx (h := ?_)
        refine tk 8 (hy := ex) (h := ?_)
        refine one 9 (h := ?_)
        refine esX (hm := hm2) (hst0 := ht2) (hj := hj2) (h := fun es3 hm3 ht3 => ?_)
        rw [hu2] at hm3
        refine nx (h := ?_)
        refine dn (h := ?_)
        first
          | (exact ctn (x := (⟨es3, c2, _⟩, IntKind.i64.wrap (v2 + 1))) (AftI.mk' hx rfl hz2 hm3 ht3) sbz_ slz_; done)
          | (exact ctn (x := (⟨es3, c2, _⟩, IntKind.i64.wrap (v1 + 1))) (AftI.mk' hx rfl hz1 hm3 ht3) sbz_ slz_; done)
      · skip
        refine mpX (b := mb) (es := x.es) (c := x.c) (k := stK d done) (hm := hx.m) (hs := hx.s) (hst0 := hx.t) (h := fun es2 c2 vv2 s2 kv2 j2 hm2 ht2 hj2 hu2 hp2 => ?_)
        have hs2 := shape2 hx (k := stK d done) rfl hp2
        obtain ⟨v2, hv2, hz2⟩ := look_int2 hx (stK d done) hp2
        refine nx (h := ?_)
        refine tk 8 (hy := ex) (h := ?_)
        refine one 5 (h := ?_)
        first
          | refine WL.y (hy := lkE (b := mb) (k := stK d done) (hm := hm2) (hs := hs2) (hv := hv2)) (h := ?_)
          | refine WL.y (hy := lkE (b := mb) (k := stK d done) (hm := hx.m) (hs := hx.s) (hv := hv1)) (h := ?_)
        refine nx (h := ?_)
        refine tk 6 (hy := addW) (h := ?_)
        refine one 9 (h := ?_)
        refine esX (hm := hm2) (hst0 := ht2) (hj := hj2) (h := fun es3 hm3 ht3 => ?_)
        rw [hu2] at hm3
        refine nx (h := ?_)
        refine dn (h := ?_)
        first
          | (exact ctn (x := (⟨es3, c2, _⟩, IntKind.i64.wrap (v2 + 1))) (AftI.mk' hx rfl hz2 hm3 ht3) sbz_ slz_; done)
          | (exact ctn (x := (⟨es3, c2, _⟩, IntKind.i64.wrap (v1 + 1))) (AftI.mk' hx rfl hz1 hm3 ht3) sbz_ slz_; done)
    intro z3 hz3
    refine sq (h := ?_)
    refine rgD (by kernel_rfl) [(1000000, .blk b0 157 (stC d done)), (1000000, .blk sb 154 (seC p days mb)), (1000000, .obj mb (.map z3.1.es z3.1.c))] (by repeat (first | exact HS.nil | (apply HS.keep; (repeat (first | exact At.here | apply At.there))) | (apply HS.ro; (repeat (first | exact Rds.ro | exact Rds.own | apply Rds.there))))) (h := ?_)
    refine tk 0 (hy := mv) (h := ?_)
    refine tk 1 (hy := nck) (h := ?_)
    refine tk 2 (hy := (by first | exact fa | exact faE)) (h := ?_)
    refine tk 3 (hy := (by first | exact ld | exact ldE)) (h := ?_)
    refine tk 4 (hy := (by first | exact ldA | exact ldEA)) (h := ?_)
    refine tk 5 (hy := lkE (b := mb) (k := stK d done) (hm := hz3.s.m) (hs := hz3.s.s) (hv := hz3.look)) (h := ?_)
    refine tk 6 (hy := gtr) (h := ?_)
    refine dn (h := ?_)
    refine q_seq (h := ?_)
    refine cd (by exact rfl) (fun h1 => ?_) (fun h1 => ?_)
    · skip
      have hin : stK d done ∈ keysX x := Decidable.byContradiction fun h9 => by have h8 := hz3.one h9; have h7 := of_decide_eq_true h1; rw [h8] at h7; omega
      have hagain := hz3.again hin hD
      have hdeadx := hD d done hSt.nrm hin (Nat.le_refl _)
      refine sq (h := ?_)
      refine WC.nilOwn 48 3 (h := ?_)
      refine rg (h := ?_)
      refine wy asg ?_
      refine WL.cut (by repeat (first | exact Cut.nil | apply Cut.hit | apply Cut.miss (by exact rfl))) ?_
      refine wy asg ?_
      refine WL.cut (by repeat (first | exact Cut.nil | apply Cut.hit | apply Cut.miss (by exact rfl))) ?_
      refine nl (h := ?_)
      refine q_seq (h := ?_)
      refine rtn (h := ?_)
      refine q_then_ret (h := ?_)
      refine q_sc_ret (h := ?_)
      refine q_ret (hR := ?_)
      exact fun w hS => ⟨⟨[], false, none, 0, z3.1⟩, ⟨hz3.s, fun h9 => (by cases h9), fun _ => ⟨hagain, hdeadx⟩, by dsimp only [List.length_nil]; omega⟩, rfl, hS.sub slz_⟩
    · skip
      have hT0 := hz3.tried (p := p) (days := days) hSt.nrm hD
      refine skp (h := ?_)
      refine q_seq (h := ?_)
      refine sq (h := ?_)
      refine lbl (h := ?_)
      refine q_seq (h := ?_)
      refine sq (h := ?_)
      refine sq (h := ?_)
      refine WC.getRowF (pgU_j p) atz_ ?_
      refine WC.getRowF (pgU_d p) atz_ ?_
      refine rg (h := ?_)
      refine wy mv ?_
      refine wy nck ?_
      refine wy (by first | exact fa | exact faE) ?_
      refine wy (by first | exact fa | exact faE) ?_
      refine wy (by first | exact ld | exact ldE) ?_
      refine wy lenS ?_
      refine wy mv ?_
      refine nl (h := ?_)
      refine q_seq (h := ?_)
      refine bk (h := ?_)
      refine lp (X := FlZ) (I := fun z => z.k ≤ p.jobs.length ∧ TryI p days x d done z.y ∧ NoJ p days d (bitF done) z.k) (le := fun z => [(0, .pointer (some ⟨sb, 0, none⟩)), (3, .pointer (some ⟨b0, 0, none⟩)), (51, .slice p.jA p.jobs.length p.jc), (52, .int .i64 p.jobs.length), (53, .int .i64 z.k)]) (Le := fun z => .obj mb (.map z.y.es z.y.c) :: .blk b0 157 (stC d done) :: .blk sb 154 (seC p days mb) :: .ro p.jA 6 p.jobs.length (encJb p.jobs) :: .ro p.dA 1 p.days.length (encDy p.days) :: manyE false (pgU p) :: R) (μ := fun z => p.jobs.length - z.k) ⟨0, z3.1⟩ ⟨Nat.zero_le _, hT0, NoJ.zero⟩ sbz_ slz_ (fun z hz => ?_)
      obtain ⟨hzk, hT, hno⟩ := hz
      refine sq (h := ?_)
      refine rg (h := ?_)
      refine wy lss ?_
      refine nl (h := ?_)
      refine q_seq (h := ?_)
      refine sq (h := ?_)
      refine cd (by exact rfl) (fun h2 => ?_) (fun h2 => ?_)
      · skip
        have hkn : z.k < p.jobs.length := by have := of_decide_eq_true h2; omega
        obtain ⟨j, hj⟩ : ∃ j, p.jobs[z.k]? = some j := ⟨_, List.getElem?_eq_getElem hkn⟩
        have hjm := List.mem_of_getElem? hj
        have hjo := hp.jb z.k j hkn hj
        have hjlen := hjo.len
        have hjdue := hjo.due
        have hfn := hN.fn j hjm
        refine skp (h := ?_)
        refine q_seq (h := ?_)
        refine sq (h := ?_)
        refine bk (h := ?_)
        refine sq (h := ?_)
        refine rg (h := ?_)
        refine wy mv ?_
        refine wy (ix (A := p.jA) (m := p.jobs.length) (hb := by omega)) ?_
        refine wy (ldEW (A := p.jA) (cs := j.cells) (hk := encJb_at hj)) ?_
        refine al (h := fun b1 => ?_)
        refine wy asg ?_
        refine WL.cut (by repeat (first | exact Cut.nil | apply Cut.hit | apply Cut.miss (by exact rfl))) ?_
        first | refine stA (h := ?_) | refine stEA (h := ?_)
        refine nl (h := ?_)
        refine q_seq (h := ?_)
        refine sq (h := ?_)
        refine sq (h := ?_)
        refine rg (h := ?_)
        refine wy (by first | exact ldA | exact ldEA) ?_
        refine wy mv ?_
        refine cl0 (hc := fun w hS => C_state_has d done z.k (by omega) (by omega) w) (h := ?_)
        refine nl (h := ?_)
        refine q_seq (h := ?_)
        refine cd (by exact rfl) (fun h3 => ?_) (fun h3 => ?_)
        · skip
          have hsk : ∀ (s : Se) (o : List Se), s.job = (z.k : Nat) → ¬ Pth p days d (bitF done) (s :: o) := fun s o e hP => by
            have h9 := hP.1.new
            rw [e, Int.toNat_natCast] at h9
            have h8 : done.testBit z.k = true := h3
            rw [show bitF done z.k = done.testBit z.k from rfl, h8] at h9
            cases h9
          refine et (h := ?_)
          refine q_then_exit (h := ?_)
          refine q_blk_hit (h := ?_)
          refine q_seq (h := ?_)
          refine rg (h := ?_)
          refine wy addI ?_
          refine wy mv ?_
          refine nl (h := ?_)
          first
            | (have e9 := hvd; refine rn (x := z) ⟨z.k + 1, v.y⟩ ⟨hkn, hvT, hno.step hsk⟩ (by dsimp only; omega) sbz_ slz_; done)
            | (refine rn (x := z) ⟨z.k + 1, z.y⟩ ⟨hkn, hT, hno.step hsk⟩ (by dsimp only; omega) sbz_ slz_; done)
        · skip
          have hnew : done.testBit z.k = false := h3
          refine skp (h := ?_)
          refine q_seq (h := ?_)
          refine sq (h := ?_)
          refine sq (h := ?_)
          refine WC.getRowF (pgU_f hjm) atz_ ?_
          refine rg (h := ?_)
          refine wy (by first | exact fa | exact faE) ?_
          refine wy (by first | exact ld | exact ldE) ?_
          refine wy lenS ?_
          refine wy mv ?_
          refine nl (h := ?_)
          refine q_seq (h := ?_)
          refine bk (h := ?_)
          refine lp (X := Nat) (I := fun i => i ≤ j.af.length ∧ ∀ a ∈ j.af.take i, bitF done a.toNat = true) (le := fun i => [(0, .pointer (some ⟨sb, 0, none⟩)), (3, .pointer (some ⟨b0, 0, none⟩)), (6, .int .i64 z.k), (7, .pointer (some ⟨b1, 0, none⟩)), (51, .slice p.jA p.jobs.length p.jc), (52, .int .i64 p.jobs.length), (53, .int .i64 z.k), (62, .slice j.fA j.af.length j.fc), (63, .int .i64 j.af.length), (64, .int .i64 i)]) (Le := fun _ => .blk b1 80 j.cells :: .ro j.fA 1 j.af.length (enI j.af) :: .obj mb (.map z.y.es z.y.c) :: .blk b0 157 (stC d done) :: .blk sb 154 (seC p days mb) :: .ro p.jA 6 p.jobs.length (encJb p.jobs) :: .ro p.dA 1 p.days.length (encDy p.days) :: manyE false (pgU p) :: R) (μ := fun i => j.af.length - i) 0 ⟨Nat.zero_le _, fun a h9 => (by cases h9)⟩ sbz_ slz_ (fun i hi => ?_)
          obtain ⟨hiLn, hiA⟩ := hi
          refine sq (h := ?_)
          refine rg (h := ?_)
          refine wy lss ?_
          refine nl (h := ?_)
          refine q_seq (h := ?_)
          refine sq (h := ?_)
          refine cd (by exact rfl) (fun h4 => ?_) (fun h4 => ?_)
          · skip
            have hin2 : i < j.af.length := by have := of_decide_eq_true h4; omega
            obtain ⟨a, haa⟩ : ∃ a, j.af[i]? = some a := ⟨_, List.getElem?_eq_getElem hin2⟩
            have har := hjo.af i a hin2 haa
            refine skp (h := ?_)
            refine q_seq (h := ?_)
            refine sq (h := ?_)
            refine bk (h := ?_)
            refine sq (h := ?_)
            refine rg (h := ?_)
            refine wy (ix (A := j.fA) (m := j.af.length) (hb := by omega)) ?_
            refine wy (ldE (A := j.fA) (hk := enI_at haa)) ?_
            refine wy asg ?_
            refine WL.cut (by repeat (first | exact Cut.nil | apply Cut.hit | apply Cut.miss (by exact rfl))) ?_
            refine nl (h := ?_)
            refine q_seq (h := ?_)
            refine sq (h := ?_)
            refine rg (h := ?_)
            refine wy (by first | exact ldA | exact ldEA) ?_
            refine wy mv ?_
            refine cl0 (hc := fun w hS => C_state_hasZ d done a.toNat a (by omega) (by omega) (by omega) w) (h := ?_)
            refine wy notB ?_
            refine nl (h := ?_)
            refine q_seq (h := ?_)
            refine cd (by exact rfl) (fun h5 => ?_) (fun h5 => ?_)
            · skip
              have hsk : ∀ (s : Se) (o : List Se), s.job = (z.k : Nat) → ¬ Pth p days d (bitF done) (s :: o) := fun s o e hP => by
                have h9 := hP.1.af j (by rw [e, Int.toNat_natCast]; exact hj) a (List.mem_of_getElem? haa)
                have h8 : done.testBit a.toNat = false := by simpa using h5
                rw [show bitF done a.toNat = done.testBit a.toNat from rfl, h8] at h9
                cases h9
              refine et (h := ?_)
              refine q_blk_miss (h := ?_)
              refine q_then_exit (h := ?_)
              refine q_then_exit (h := ?_)
              refine q_blk_miss (h := ?_)
              refine q_then_exit (h := ?_)
              refine q_blk_hit (h := ?_)
              refine q_seq (h := ?_)
              refine rg (h := ?_)
              refine wy addI ?_
              refine wy mv ?_
              refine nl (h := ?_)
              first
                | (have e9 := hvd; refine rn (x := z) ⟨z.k + 1, v.y⟩ ⟨hkn, hvT, hno.step hsk⟩ (by dsimp only; omega) sbz_ slz_; done)
                | (refine rn (x := z) ⟨z.k + 1, z.y⟩ ⟨hkn, hT, hno.step hsk⟩ (by dsimp only; omega) sbz_ slz_; done)
            · skip
              have hdone : done.testBit a.toNat = true := by simpa using h5
              refine skp (h := ?_)
              refine q_blk_norm (h := ?_)
              refine q_seq (h := ?_)
              refine rg (h := ?_)
              refine wy addI ?_
              refine wy mv ?_
              refine nl (h := ?_)
              refine rn (x := i) (i + 1) ⟨hin2, fun a' h9 => by
                rw [List.take_add_one, haa, Option.toList_some, List.mem_append] at h9
                rcases h9 with h9 | h9
                · exact hiA a' h9
                · rw [List.mem_singleton.1 h9]; exact hdone⟩ (by omega) sbz_ slz_
          · skip
            have hin2 : i = j.af.length := by have := of_decide_eq_false h4; omega
            rw [hin2, List.take_length] at hiA
            refine et (h := ?_)
            refine q_then_exit (h := ?_)
            refine q_then_exit (h := ?_)
            refine q_blk_hit (h := ?_)
            refine q_seq (h := ?_)
            refine sq (h := ?_)
            refine rg (h := ?_)
            refine wy (by first | exact fa | exact faE) ?_
            refine wy (by first | exact fa | exact faE) ?_
            refine wy (by first | exact ld | exact ldE) ?_
            refine wy asg ?_
            refine WL.cut (by repeat (first | exact Cut.nil | apply Cut.hit | apply Cut.miss (by exact rfl))) ?_
            refine nl (h := ?_)
            refine q_seq (h := ?_)
            refine bk (h := ?_)
            refine lp (X := FdZ) (I := fun v => d.num ≤ v.n ∧ TryI p days x d done v.y ∧ NoD p days d (bitF done) z.k v.n) (le := fun v => [(0, .pointer (some ⟨sb, 0, none⟩)), (3, .pointer (some ⟨b0, 0, none⟩)), (6, .int .i64 z.k), (7, .pointer (some ⟨b1, 0, none⟩)), (10, .int .i64 v.n), (51, .slice p.jA p.jobs.length p.jc), (52, .int .i64 p.jobs.length), (53, .int .i64 z.k)]) (Le := fun v => .blk b1 80 j.cells :: .obj mb (.map v.y.es v.y.c) :: .blk b0 157 (stC d done) :: .blk sb 154 (seC p days mb) :: .ro p.jA 6 p.jobs.length (encJb p.jobs) :: .ro p.dA 1 p.days.length (encDy p.days) :: manyE false (pgU p) :: R) (μ := fun v => (days - v.n).toNat) ⟨d.num, z.y⟩ ⟨Int.le_refl _, hT, NoD.zero⟩ sbz_ slz_ (fun v hv => ?_)
            obtain ⟨hvn, hvT, hvD⟩ := hv
            refine sq (h := ?_)
            refine sq (h := ?_)
            refine rg (h := ?_)
            refine wy mv ?_
            refine wy mv ?_
            refine wy nck ?_
            refine wy (by first | exact fa | exact faE) ?_
            refine wy (by first | exact ld | exact ldE) ?_
            refine wy lss ?_
            refine wy mv ?_
            apply brAnd 5 82 87 (by exact rfl)
            · intro hb6
              refine un (h := ?_)
              refine wy mv ?_
              refine un (h := ?_)
              refine wy (by first | exact fa | exact faE) ?_
              refine un (h := ?_)
              refine wy (by first | exact ld | exact ldE) ?_
              refine un (h := ?_)
              refine wy leq ?_
              refine wy (by first | exact pkT | exact pkF) ?_
              exact mg (by repeat (first | exact trivial | refine ⟨rfl, ?_⟩ | refine ⟨by rw [hb6]; rfl, ?_⟩)) slz_
            · intro hb6
              repeat (first | refine un (h := ?_) | refine sk (h := ?_) | refine WL.y (hy := pkF) (h := ?_) | refine WL.y (hy := pkT) (h := ?_))
              exact mg (by repeat (first | exact trivial | refine ⟨rfl, ?_⟩ | refine ⟨by rw [hb6]; rfl, ?_⟩)) slz_
            refine nl (h := ?_)
            refine q_seq (h := ?_)
            refine cd (by exact rfl) (fun h7 => ?_) (fun h7 => ?_)
            · skip
              have hvd : v.n < days ∧ v.n ≤ j.due := by have h9 := h7; rw [Bool.and_eq_true, decide_eq_true_eq, decide_eq_true_eq] at h9; exact h9
              refine skp (h := ?_)
              refine q_seq (h := ?_)
              refine sq (h := ?_)
              refine bk (h := ?_)
              refine sq (h := ?_)
              refine rg (h := ?_)
              refine wy (by first | exact fa | exact faE) ?_
              refine wy (by first | exact ldA | exact ldEA) ?_
              refine al (h := fun b2 => ?_)
              first | refine stA (h := ?_) | refine stEA (h := ?_)
              refine nl (h := ?_)
              refine q_seq (h := ?_)
              refine ct (X := Unit) (fun _ => True) (fun _ => [(0, .pointer (some ⟨sb, 0, none⟩)), (3, .pointer (some ⟨b0, 0, none⟩)), (6, .int .i64 z.k), (7, .pointer (some ⟨b1, 0, none⟩)), (10, .int .i64 v.n), (11, .pointer (some ⟨b2, 0, none⟩)), (51, .slice p.jA p.jobs.length p.jc), (52, .int .i64 p.jobs.length), (53, .int .i64 z.k)]) (fun _ => .blk b2 140 (dayAt p d v.n).cells :: .blk b1 80 j.cells :: .obj mb (.map v.y.es v.y.c) :: .blk b0 157 (stC d done) :: .blk sb 154 (seC p days mb) :: .ro p.jA 6 p.jobs.length (encJb p.jobs) :: .ro p.dA 1 p.days.length (encDy p.days) :: manyE false (pgU p) :: R) (h1 := ?_) (h2 := ?_)
              · skip
                refine sq (h := ?_)
                refine rg (h := ?_)
                refine wy mv ?_
                refine wy (by first | exact fa | exact faE) ?_
                refine wy (by first | exact fa | exact faE) ?_
                refine wy (by first | exact ld | exact ldE) ?_
                refine wy gtr ?_
                refine nl (h := ?_)
                refine q_seq (h := ?_)
                refine cd (by exact rfl) (fun h8 => ?_) (fun h8 => ?_)
                · skip
                  have hdat : dayAt p d v.n = openD p v.n := by unfold dayAt; rw [if_neg (by have := of_decide_eq_true h8; omega)]
                  refine rg (h := ?_)
                  refine wy mv ?_
                  refine wy nck ?_
                  refine wy (by first | exact fa | exact faE) ?_
                  refine wy (by first | exact ldA | exact ldEA) ?_
                  refine wy mv ?_
                  refine cl0 (hc := fun w hS => C_play_open p hp v.n (by omega) w (PgR.of (fun r hr => hS.many atz_ hr) hN)) (h := ?_)
                  first | refine stA (h := ?_) | refine stEA (h := ?_)
                  refine nl (h := ?_)
                  exact ctn (x := ()) trivial sbz_ (by rw [hdat]; exact slz_)
                · skip
                  have hdat : dayAt p d v.n = d := by unfold dayAt; rw [if_pos (by have := of_decide_eq_false h8; omega)]
                  refine skp (h := ?_)
                  exact ctn (x := ()) trivial sbz_ (by rw [hdat]; exact slz_)
              rintro - -
              obtain ⟨dy, hdy⟩ : ∃ dy, p.days[v.n.toNat]? = some dy := ⟨_, List.getElem?_eq_getElem (by omega)⟩
              have hdm := List.mem_of_getElem? hdy
              have hdl := (hp.dy _ dy (by omega) hdy).1
              have hsn := hN.sn dy hdm
              refine sq (h := ?_)
              refine rg (h := ?_)
              refine wy mv ?_
              refine wy nck ?_
              refine wy (by first | exact fa | exact faE) ?_
              refine wy (by first | exact fa | exact faE) ?_
              refine wy (by first | exact ld | exact ldE) ?_
              refine wy mv ?_
              refine wy (ix (A := p.dA) (m := p.days.length) (hb := by omega)) ?_
              refine wy (ldE (A := p.dA) (hk := encDy_at hdy)) ?_
              refine wy lenS ?_
              refine wy mv ?_
              refine nl (h := ?_)
              refine q_seq (h := ?_)
              refine bk (h := ?_)
              refine WC.getRowF (pgU_s hdm) atz_ ?_
              refine lp (X := FlZ) (I := fun u => u.k ≤ dy.sp.length ∧ TryI p days x d done u.y ∧ NoC p days d (bitF done) z.k v.n u.k) (le := fun u => [(0, .pointer (some ⟨sb, 0, none⟩)), (3, .pointer (some ⟨b0, 0, none⟩)), (6, .int .i64 z.k), (7, .pointer (some ⟨b1, 0, none⟩)), (10, .int .i64 v.n), (11, .pointer (some ⟨b2, 0, none⟩)), (51, .slice p.jA p.jobs.length p.jc), (52, .int .i64 p.jobs.length), (53, .int .i64 z.k), (110, .slice dy.A dy.sp.length dy.c), (111, .int .i64 dy.sp.length), (112, .int .i64 u.k)]) (Le := fun u => .blk b2 140 (dayAt p d v.n).cells :: .ro dy.A 2 dy.sp.length (encSn dy.sp) :: .blk b1 80 j.cells :: .obj mb (.map u.y.es u.y.c) :: .blk b0 157 (stC d done) :: .blk sb 154 (seC p days mb) :: .ro p.jA 6 p.jobs.length (encJb p.jobs) :: .ro p.dA 1 p.days.length (encDy p.days) :: manyE false (pgU p) :: R) (μ := fun u => dy.sp.length - u.k) ⟨0, v.y⟩ ⟨Nat.zero_le _, hvT, NoC.zero⟩ sbz_ slz_ (fun u hu => ?_)
              obtain ⟨huL, huT, huC⟩ := hu
              refine sq (h := ?_)
              refine rg (h := ?_)
              refine wy lss ?_
              refine nl (h := ?_)
              refine q_seq (h := ?_)
              refine sq (h := ?_)
              refine cd (by exact rfl) (fun h9 => ?_) (fun h9 => ?_)
              · skip
                have hcn : u.k < dy.sp.length := by have := of_decide_eq_true h9; omega
                obtain ⟨hrs, hct⟩ : ∃ hrs, dy.sp[u.k]? = some hrs := ⟨_, List.getElem?_eq_getElem hcn⟩
                have hnx := hSt.next hp hkn hnew hj (n := v.n) (c := (u.k : Int)) (by omega) (by omega)
                obtain ⟨hSt2, hOk2, hPos2, hlv2⟩ := hnx
                have hcl : closeV p ⟨z.k, v.n, u.k⟩ = hrs.2 := by
                  unfold closeV
                  dsimp only
                  rw [hdy]
                  dsimp only
                  rw [Int.toNat_natCast, hct]
                have hhl : hiL p (z.k : Nat) = j.len.2 := by unfold hiL Pg.len; rw [Int.toNat_natCast, hj]
                have hor : orV (done : Int) (1 * 2 ^ ((z.k : Nat) : Int).toNat) = ((done ||| 2 ^ z.k : Nat) : Int) := by rw [Int.toNat_natCast]; exact bit_put done z.k (by omega) (by omega)
                refine skp (h := ?_)
                refine q_seq (h := ?_)
                refine sq (h := ?_)
                refine bk (h := ?_)
                refine sq (h := ?_)
                refine rg (h := ?_)
                refine wy mv ?_
                refine wy (ix (A := dy.A) (m := dy.sp.length) (hb := by omega)) ?_
                refine wy (ldEW (A := dy.A) (hk := encSn_at hct)) ?_
                refine al (h := fun b3 => ?_)
                refine wy asg ?_
                refine WL.cut (by repeat (first | exact Cut.nil | apply Cut.hit | apply Cut.miss (by exact rfl))) ?_
                first | refine stA (h := ?_) | refine stEA (h := ?_)
                refine nl (h := ?_)
                refine q_seq (h := ?_)
                refine sq (h := ?_)
                refine rg (h := ?_)
                refine wy mv ?_
                refine wy mv ?_
                refine wy mv ?_
                refine wy bd ?_
                refine al (h := fun b4 => ?_)
                first | refine stA (h := ?_) | refine stEA (h := ?_)
                refine nl (h := ?_)
                refine q_seq (h := ?_)
                refine ct (X := Nat) (fun _ => True) (fun bs5 => [(0, .pointer (some ⟨sb, 0, none⟩)), (3, .pointer (some ⟨b0, 0, none⟩)), (6, .int .i64 z.k), (7, .pointer (some ⟨b1, 0, none⟩)), (10, .int .i64 v.n), (11, .pointer (some ⟨b2, 0, none⟩)), (13, .pointer (some ⟨b3, 0, none⟩)), (14, .pointer (some ⟨b4, 0, none⟩)), (15, .pointer (some ⟨bs5, 0, none⟩)), (51, .slice p.jA p.jobs.length p.jc), (52, .int .i64 p.jobs.length), (53, .int .i64 z.k), (110, .slice dy.A dy.sp.length dy.c), (111, .int .i64 dy.sp.length), (112, .int .i64 u.k)]) (fun bs5 => .blk bs5 157 (stC (dayAt p d v.n) (done ||| 2 ^ z.k)) :: .blk b3 74 [.int .i64 hrs.1, .int .i64 hrs.2] :: .blk b4 48 [.int .i64 z.k, .int .i64 v.n, .int .i64 u.k] :: .blk b2 140 (dayAt p d v.n).cells :: .ro dy.A 2 dy.sp.length (encSn dy.sp) :: .blk b1 80 j.cells :: .obj mb (.map u.y.es u.y.c) :: .blk b0 157 (stC d done) :: .blk sb 154 (seC p days mb) :: .ro p.jA 6 p.jobs.length (encJb p.jobs) :: .ro p.dA 1 p.days.length (encDy p.days) :: manyE false (pgU p) :: R) (h1 := ?_) (h2 := ?_)
                · skip
                  refine rgD (by kernel_rfl) [(1000000, .blk b0 157 (stC d done)), (1000000, .blk b2 140 (dayAt p d v.n).cells), (1000000, .blk b4 48 [.int .i64 z.k, .int .i64 v.n, .int .i64 u.k])] (by repeat (first | exact HS.nil | (apply HS.keep; (repeat (first | exact At.here | apply At.there))) | (apply HS.ro; (repeat (first | exact Rds.ro | exact Rds.own | apply Rds.there))))) (h := ?_)
                  refine tk 0 (hy := (by first | exact ldA | exact ldEA)) (h := ?_)
                  refine tk 1 (hy := (by first | exact fa | exact faE)) (h := ?_)
                  refine tk 2 (hy := (by first | exact ld | exact ldE)) (h := ?_)
                  refine tk 3 (hy := mv) (h := ?_)
                  refine tk 4 (hy := shlI (hb := by rw [← nat_pow_cast, Int.one_mul]; have h9 := Nat.pow_le_pow_right (n := 2) (by omega) (show z.k ≤ 6 by omega); generalize 2 ^ z.k = m at h9 ⊢; omega)) (h := ?_)
                  refine tk 5 (hy := orE hor) (h := ?_)
                  refine tk 6 (hy := (by first | exact fa | exact faE)) (h := ?_)
                  refine tk 7 (hy := (by first | exact ld | exact ldE)) (h := ?_)
                  refine tk 8 (hy := mv) (h := ?_)
                  refine tk 9 (hy := (by first | exact ldA | exact ldEA)) (h := ?_)
                  refine two 10 13 (h1 := ?_) (h2 := ?_)
                  · skip
                    refine clT (hc := T_move p days sb mb ⟨z.k, v.n, u.k⟩) (h := fun _ _ => ?_)
                    refine nx (h := ?_)
                    refine tk 11 (hy := subI (hb := by omega)) (h := ?_)
                    refine tk 12 (hy := bd) (h := ?_)
                    refine one 13 (h := ?_)
                    refine al (h := fun bs => ?_)
                    refine nx (h := ?_)
                    refine one 14 (h := ?_)
                    first | refine stA (h := ?_) | refine stEA (h := ?_)
                    refine nx (h := ?_)
                    refine dn (h := ?_)
                    exact ctn (x := bs) trivial sbz_ slz_
                  · skip
                    refine al (h := fun bs => ?_)
                    refine nx (h := ?_)
                    refine one 10 (h := ?_)
                    refine clT (hc := T_move p days sb mb ⟨z.k, v.n, u.k⟩) (h := fun _ _ => ?_)
                    refine nx (h := ?_)
                    refine tk 11 (hy := subI (hb := by omega)) (h := ?_)
                    refine tk 12 (hy := bd) (h := ?_)
                    refine one 14 (h := ?_)
                    first | refine stA (h := ?_) | refine stEA (h := ?_)
                    refine nx (h := ?_)
                    refine dn (h := ?_)
                    exact ctn (x := bs) trivial sbz_ slz_
                rintro bs5 -
                refine sq (h := ?_)
                refine sq (h := ?_)
                refine rgD (by kernel_rfl) [(1000000, .blk sb 154 (seC p days mb)), (1000000, .blk b4 48 [.int .i64 z.k, .int .i64 v.n, .int .i64 u.k]), (1000000, .blk b1 80 j.cells)] (by repeat (first | exact HS.nil | (apply HS.keep; (repeat (first | exact At.here | apply At.there))) | (apply HS.ro; (repeat (first | exact Rds.ro | exact Rds.own | apply Rds.there))))) (h := ?_)
                refine tk 0 (hy := (by first | exact fa | exact faE)) (h := ?_)
                refine tk 1 (hy := mv) (h := ?_)
                refine tk 2 (hy := nck) (h := ?_)
                refine tk 3 (hy := (by first | exact fa | exact faE)) (h := ?_)
                refine tk 4 (hy := (by first | exact ldA | exact ldEA)) (h := ?_)
                refine tk 5 (hy := (by first | exact ldA | exact ldEA)) (h := ?_)
                refine tk 6 (hy := (by first | exact fa | exact faE)) (h := ?_)
                refine tk 7 (hy := (by first | exact fa | exact faE)) (h := ?_)
                refine tk 8 (hy := (by first | exact ld | exact ldE)) (h := ?_)
                refine one 9 (h := ?_)
                refine clT (hc := T_playX p hp hN ⟨z.k, v.n, u.k⟩ j (by rw [show (⟨z.k, v.n, u.k⟩ : Se).job.toNat = z.k from Int.toNat_natCast z.k]; exact hj) (by dsimp only; omega) (by dsimp only; omega) (dayAt p d v.n) (1440 + 1200 * (lev p.jobs.length done : Nat)) hOk2 (by omega) hPos2 j.len.2 (by omega) bs5 (done ||| 2 ^ z.k)) (h := fun _ _ => ?_)
                refine nx (h := ?_)
                refine tk 10 (hy := mv) (h := ?_)
                refine tk 11 (hy := ex) (h := ?_)
                refine tk 12 (hy := ex) (h := ?_)
                refine tk 13 (hy := asg) (h := ?_)
                refine tk 14 (hy := asg) (h := ?_)
                refine dn (h := ?_)
                refine q_seq (h := ?_)
                refine sq (h := ?_)
                refine rg (h := ?_)
                refine wy mv ?_
                refine wy (by first | exact fa | exact faE) ?_
                refine wy (by first | exact ld | exact ldE) ?_
                refine wy gtr ?_
                refine wy mv ?_
                apply brOr 4 151 155 (by exact rfl)
                · intro hb10
                  refine un (h := ?_)
                  refine wy (by first | exact fa | exact faE) ?_
                  refine un (h := ?_)
                  refine wy (by first | exact ld | exact ldE) ?_
                  refine un (h := ?_)
                  refine wy ((Yd.fl (lss) (by decide))) ?_
                  refine wy (by first | exact pkT | exact pkF) ?_
                  exact mg (by repeat (first | exact trivial | refine ⟨rfl, ?_⟩ | refine ⟨by rw [hb10]; rfl, ?_⟩)) slz_
                · intro hb10
                  repeat (first | refine un (h := ?_) | refine sk (h := ?_) | refine WL.y (hy := pkF) (h := ?_) | refine WL.y (hy := pkT) (h := ?_))
                  exact mg (by repeat (first | exact trivial | refine ⟨rfl, ?_⟩ | refine ⟨by rw [hb10]; rfl, ?_⟩)) slz_
                refine nl (h := ?_)
                refine q_seq (h := ?_)
                refine cd (by exact rfl) (fun h11 => ?_) (fun h11 => ?_)
                · skip
                  have hbad : ∀ o, ¬ Pth p days d (bitF done) (⟨z.k, v.n, u.k⟩ :: o) := fun o hP => by
                    have h9 := hP.1.fit
                    rw [hcl, show hiL p (⟨z.k, v.n, u.k⟩ : Se).job = j.len.2 from hhl] at h9
                    have h8 := h11
                    rw [Bool.or_false] at h8
                    have h7 := of_decide_eq_true h8
                    have h6 : begV p (dayAt p d v.n) ⟨z.k, v.n, u.k⟩ + j.len.2 ≤ hrs.2 := h9
                    omega
                  refine et (h := ?_)
                  refine q_then_exit (h := ?_)
                  refine q_blk_hit (h := ?_)
                  refine q_seq (h := ?_)
                  refine rg (h := ?_)
                  refine wy addI ?_
                  refine wy mv ?_
                  refine nl (h := ?_)
                  first
                    | (have e9 := hbad; refine rn (x := u) ⟨u.k + 1, u.y⟩ ⟨hcn, huT, huC.step hbad⟩ (by dsimp only; omega) sbz_ slz_; done)
                    | (have e9 := hnow; refine rn (x := u) ⟨u.k + 1, q.y⟩ ⟨hcn, huT.next hq.s hq1 hq2, huC.step hnow⟩ (by dsimp only; omega) sbz_ slz_; done)
                · skip
                  have hfit : begV p (dayAt p d v.n) ⟨z.k, v.n, u.k⟩ + j.len.2 ≤ hrs.2 := by
                    have h8 := h11
                    rw [Bool.or_false] at h8
                    have h7 := of_decide_eq_false h8
                    omega
                  have hstep : StepP p days d (bitF done) ⟨z.k, v.n, u.k⟩ := ⟨by dsimp only; omega, by show done.testBit ((z.k : Nat) : Int).toNat = false; rw [Int.toNat_natCast]; exact hnew, fun j' hj' a ha => by
                    rw [show (⟨z.k, v.n, u.k⟩ : Se).job.toNat = z.k from Int.toNat_natCast z.k, hj] at hj'
                    cases hj'
                    exact hiA a ha, ⟨hvn, hvd.1⟩, fun j' hj' => by
                    rw [show (⟨z.k, v.n, u.k⟩ : Se).job.toNat = z.k from Int.toNat_natCast z.k, hj] at hj'
                    cases hj'
                    exact hvd.2, by dsimp only; omega, by rw [hcl]; exact hhl ▸ hfit⟩
                  have hnD : nextD p d ⟨z.k, v.n, u.k⟩ = playD p (dayAt p d v.n) ⟨z.k, v.n, u.k⟩ j.len.2 := by unfold nextD; rw [show hiL p (⟨z.k, v.n, u.k⟩ : Se).job = j.len.2 from hhl]
                  have hbF : upB (bitF done) (⟨z.k, v.n, u.k⟩ : Se).job.toNat = bitF (done ||| 2 ^ z.k) := by rw [show (⟨z.k, v.n, u.k⟩ : Se).job.toNat = z.k from Int.toNat_natCast z.k, bitF_put]
                  refine skp (h := ?_)
                  refine q_seq (h := ?_)
                  refine sq (h := ?_)
                  refine rg (h := ?_)
                  refine wy mv ?_
                  refine wy (by first | exact ldA | exact ldEA) ?_
                  refine clT (hc := IH (playD p (dayAt p d v.n) ⟨z.k, v.n, u.k⟩ j.len.2) (done ||| 2 ^ z.k) u.y huT.s hSt2 (by rw [hlv2]; omega) (by rw [hlv2]; exact huT.dead)) (h := fun q hq => ?_)
                  have hqn := hq.n
                  rw [hlv2] at hqn
                  refine wy mv ?_
                  refine wy ex ?_
                  refine wy ex ?_
                  refine wy asg ?_
                  refine WL.cut (by repeat (first | exact Cut.nil | apply Cut.hit | apply Cut.miss (by exact rfl))) ?_
                  refine wy asg ?_
                  refine WL.cut (by repeat (first | exact Cut.nil | apply Cut.hit | apply Cut.miss (by exact rfl))) ?_
                  refine nl (h := ?_)
                  refine q_seq (h := ?_)
                  refine sq (h := ?_)
                  refine rg (h := ?_)
                  refine wy mv ?_
                  refine nl (h := ?_)
                  refine q_seq (h := ?_)
                  refine cd (by exact rfl) (fun h12 => ?_) (fun h12 => ?_)
                  · skip
                    have hqb : q.b = true := h12
                    have hway := hq.t hqb
                    rw [← hnD, ← hbF] at hway
                    refine sq (h := ?_)
                    refine rg (h := ?_)
                    refine wy (by first | exact ldA | exact ldEA) ?_
                    refine bs (h := fun b5 => ?_)
                    refine wy mv ?_
                    refine ap (es := [[.int .i64 z.k, .int .i64 v.n, .int .i64 u.k]]) (m := 1) (k := q.o.length) (A2 := q.A) (es2 := encSe q.o) (hb := by omega) (h := fun A1 c1 => ?_)
                    rw [Nat.add_comm 1 q.o.length]
                    refine wy asg ?_
                    refine WL.cut (by repeat (first | exact Cut.nil | apply Cut.hit | apply Cut.miss (by exact rfl))) ?_
                    refine wy asg ?_
                    refine WL.cut (by repeat (first | exact Cut.nil | apply Cut.hit | apply Cut.miss (by exact rfl))) ?_
                    refine nl (h := ?_)
                    refine q_seq (h := ?_)
                    refine rtn (h := ?_)
                    refine q_blk_ret (h := ?_)
                    refine q_then_ret (h := ?_)
                    refine q_then_ret (h := ?_)
                    refine q_blk_ret (h := ?_)
                    refine q_blk_ret (h := ?_)
                    refine q_then_ret (h := ?_)
                    refine q_then_ret (h := ?_)
                    refine q_blk_ret (h := ?_)
                    refine q_blk_ret (h := ?_)
                    refine q_then_ret (h := ?_)
                    refine q_then_ret (h := ?_)
                    refine q_blk_ret (h := ?_)
                    refine q_then_ret (h := ?_)
                    refine q_sc_ret (h := ?_)
                    refine q_ret (hR := ?_)
                    exact fun w hS => ⟨⟨⟨z.k, v.n, u.k⟩ :: q.o, true, A1, c1, q.y⟩, ⟨hq.s, fun _ => ⟨hstep, hway⟩, fun h9 => (by cases h9), by dsimp only [List.length_cons]; omega⟩, rfl, hS.sub slz_⟩
                  · skip
                    have hqb : q.b = false := h12
                    obtain ⟨⟨hq1, hq2⟩, hq3⟩ := hq.f hqb
                    rw [hlv2] at hq1 hq2
                    have hnow : ∀ o, ¬ Pth p days d (bitF done) (⟨z.k, v.n, u.k⟩ :: o) := fun o hP => by
                      have h9 := hP.2
                      rw [hnD, hbF] at h9
                      exact hq3 o h9
                    refine skp (h := ?_)
                    refine q_blk_norm (h := ?_)
                    refine q_seq (h := ?_)
                    refine rg (h := ?_)
                    refine wy addI ?_
                    refine wy mv ?_
                    refine nl (h := ?_)
                    first
                      | (have e9 := hbad; refine rn (x := u) ⟨u.k + 1, u.y⟩ ⟨hcn, huT, huC.step hbad⟩ (by dsimp only; omega) sbz_ slz_; done)
                      | (have e9 := hnow; refine rn (x := u) ⟨u.k + 1, q.y⟩ ⟨hcn, huT.next hq.s hq1 hq2, huC.step hnow⟩ (by dsimp only; omega) sbz_ slz_; done)
              · skip
                have hcn : u.k = dy.sp.length := by have := of_decide_eq_false h9; omega
                refine et (h := ?_)
                refine q_then_exit (h := ?_)
                refine q_then_exit (h := ?_)
                refine q_blk_hit (h := ?_)
                refine q_blk_norm (h := ?_)
                refine q_seq (h := ?_)
                refine rg (h := ?_)
                refine wy mv ?_
                refine wy (addI (hb := by omega)) ?_
                refine wy asg ?_
                refine WL.cut (by repeat (first | exact Cut.nil | apply Cut.hit | apply Cut.miss (by exact rfl))) ?_
                refine nl (h := ?_)
                refine rn (x := v) ⟨v.n + 1, u.y⟩ ⟨by dsimp only; omega, huT, hvD.step huC (by omega)⟩ (by dsimp only; omega) sbz_ slz_
            · skip
              have hvd : ¬ (v.n < days ∧ v.n ≤ j.due) := fun h8 => by have h9 := h7; rw [decide_eq_true h8.1, decide_eq_true h8.2] at h9; cases h9
              have hsk := hvD.out hj hvd
              refine et (h := ?_)
              refine q_then_exit (h := ?_)
              refine q_then_exit (h := ?_)
              refine q_blk_hit (h := ?_)
              refine q_blk_norm (h := ?_)
              refine q_seq (h := ?_)
              refine rg (h := ?_)
              refine wy addI ?_
              refine wy mv ?_
              refine nl (h := ?_)
              first
                | (have e9 := hvd; refine rn (x := z) ⟨z.k + 1, v.y⟩ ⟨hkn, hvT, hno.step hsk⟩ (by dsimp only; omega) sbz_ slz_; done)
                | (refine rn (x := z) ⟨z.k + 1, z.y⟩ ⟨hkn, hT, hno.step hsk⟩ (by dsimp only; omega) sbz_ slz_; done)
      · skip
        have hkn : z.k = p.jobs.length := by have := of_decide_eq_false h2; omega
        rw [hkn] at hno
        have hdead := dead_of rfl hno (all_done hnj hdlt hdn)
        have hfin := hT.dead_all hD hSt.nrm hdead
        refine et (h := ?_)
        refine q_then_exit (h := ?_)
        refine q_then_exit (h := ?_)
        refine q_blk_hit (h := ?_)
        refine q_seq (h := ?_)
        refine sq (h := ?_)
        refine WC.nilOwn 48 3 (h := ?_)
        refine rg (h := ?_)
        refine wy asg ?_
        refine WL.cut (by repeat (first | exact Cut.nil | apply Cut.hit | apply Cut.miss (by exact rfl))) ?_
        refine wy asg ?_
        refine WL.cut (by repeat (first | exact Cut.nil | apply Cut.hit | apply Cut.miss (by exact rfl))) ?_
        refine nl (h := ?_)
        refine q_seq (h := ?_)
        refine rtn (h := ?_)
        refine q_sc_ret (h := ?_)
        refine q_ret (hR := ?_)
        exact fun w hS => ⟨⟨[], false, none, 0, z.y⟩, ⟨hT.s, fun h9 => (by cases h9), fun _ => ⟨hfin, hdead⟩, by dsimp only [List.length_nil]; omega⟩, rfl, hS.sub slz_⟩
end Go.Proofs.YtmlhnajgiopfgaaGreat

namespace Go.Proofs.YtmlhnajgiopfgaaGreat
open Go Go.RowKit

theorem from_all (p : Pg) (hp : POk p) (hN : PgN p) (days : Int) (hdays : 0 ≤ days ∧ days ≤ p.days.length) (sb mb : Nat) : ∀ N, FromOk p days sb mb N
  | 0 => fun d done x _ _ h _ => by have := lev_le p.jobs.length done; omega
  | N + 1 => from_step p hp hN days hdays sb mb N (from_all p hp hN days hdays sb mb N)
def WayO (p : Pg) (m : Nat) (o : List Se) : Prop := if m = 0 then o = [] ∧ p.jobs.length = 0 else Pth p m (openD p 0) (fun _ => false) o
def NoWay (p : Pg) (m : Nat) : Prop := ∀ o, ¬ WayO p m o
structure LeastW (p : Pg) (m : Nat) : Prop where
  is : ∃ o, WayO p m o
  no : ∀ k, k < m → NoWay p k
  le : m ≤ p.days.length
theorem LeastW.uniq {p : Pg} {m k : Nat} (h : LeastW p m) (h' : LeastW p k) : m = k := by
  rcases Nat.lt_trichotomy m k with e | e | e
  · obtain ⟨o, ho⟩ := h.is
    exact absurd ho (h'.no m e o)
  · exact e
  · obtain ⟨o, ho⟩ := h'.is
    exact absurd ho (h.no k e o)
theorem bitF_zero : bitF 0 = fun _ => false := by funext k; exact Nat.zero_testBit k
theorem stOk_start {p : Pg} (hp : POk p) : StOk p (openD p 0) 0 :=
  ⟨nrm_open hp 0, (open_ok hp 0).mono (by omega), fun i hi => absurd hi (by show ¬ (0 : Int) < 0; omega), by show (0 : Int) ≤ 0; omega, Nat.two_pow_pos _⟩
structure OrX where
  (o : List Se) (b : Bool) (A : Option Addr) (c : Nat)
set_option maxRecDepth 100000 in
theorem C_play_order (p : Pg) (hp : POk p) (m : Nat) (hm : m ≤ p.days.length) (w : World) (h : PgR w p) :
    CR Tryz.prog 53 [p.val, .int .i64 m, .slice none 0 0, .int .i64 0] w (fun q : OrX => (q.b = true → WayO p m q.o) ∧ (q.b = false → NoWay p m) ∧ q.o.length ≤ p.jobs.length) (fun q => .tuple #[.slice q.A q.o.length q.c, .bool q.b]) (fun q => [.own q.A q.c 48 3 q.o.length (encSe q.o)]) := by
  have hnd := hp.nd
  have hnj := hp.nj
  refine ⟨en Tryz.func53 Tryz.ntmps53 (St.init w) (h := fun F => ?_)⟩
  refine sq (h := ?_)
  refine rg (h := ?_)
  refine bxA (h := fun b0 => ?_)
  refine wy asg ?_
  refine wy asg ?_
  refine nl (h := ?_)
  refine q_seq (h := ?_)
  refine sq (h := ?_)
  refine rg (h := ?_)
  refine wy (by first | exact ldA | exact ldEA) ?_
  refine wy mv ?_
  refine wy mv ?_
  refine mkm (h := fun b1 => ?_)
  refine wy bd ?_
  refine bxA (h := fun b2 => ?_)
  refine wy asg ?_
  refine nl (h := ?_)
  refine q_seq (h := ?_)
  refine sq (h := ?_)
  refine sq (h := ?_)
  refine rg (h := ?_)
  refine wy mv ?_
  refine wy eql ?_
  refine nl (h := ?_)
  refine q_seq (h := ?_)
  refine cd (by exact rfl) (fun h0 => ?_) (fun h0 => ?_)
  · skip
    have hm0 : m = 0 := by have := of_decide_eq_true h0; omega
    refine sq (h := ?_)
    refine WC.nilOwn 48 3 (h := ?_)
    refine rgD (by kernel_rfl) [(1000000, .blk b0 39 p.cells)] (by repeat (first | exact HS.nil | (apply HS.keep; (repeat (first | exact At.here | apply At.there))) | (apply HS.ro; (repeat (first | exact Rds.ro | exact Rds.own | apply Rds.there))))) (h := ?_)
    refine tk 0 (hy := (by first | exact fa | exact faE)) (h := ?_)
    refine tk 1 (hy := (by first | exact ld | exact ldE)) (h := ?_)
    refine tk 2 (hy := lenS) (h := ?_)
    refine tk 3 (hy := eql) (h := ?_)
    refine tk 4 (hy := asg) (h := ?_)
    refine tk 5 (hy := asg) (h := ?_)
    refine dn (h := ?_)
    refine q_seq (h := ?_)
    refine rtn (h := ?_)
    refine q_then_ret (h := ?_)
    refine q_ret (hR := ?_)
    exact fun w hS => ⟨⟨[], decide (((p.jobs.length : Nat) : Int) = 0), none, 0⟩, ⟨fun h9 => by unfold WayO; rw [if_pos hm0]; exact ⟨rfl, by have := of_decide_eq_true h9; omega⟩, fun h9 o h8 => by
      unfold WayO at h8
      rw [if_pos hm0] at h8
      have := of_decide_eq_false h9
      omega, Nat.zero_le _⟩, rfl, hS.sub slz_⟩
  · skip
    have hm0 : ¬ m = 0 := by have := of_decide_eq_false h0; omega
    refine skp (h := ?_)
    refine q_seq (h := ?_)
    refine sq (h := ?_)
    refine WC.manyOld h.rows ?_
    refine rg (h := ?_)
    refine wy mv ?_
    refine wy (by first | exact ldA | exact ldEA) ?_
    refine cl0 (hc := fun w hS => C_play_open p hp 0 (by omega) w (PgR.of (fun r hr => hS.many atz_ hr) h.nums)) (h := ?_)
    refine wy mv ?_
    refine wy bd ?_
    refine clT (hc := from_all p hp h.nums m (by omega) b2 b1 (p.jobs.length + 1) (openD p 0) 0 ⟨#[], 0, []⟩ SeenS.nil (stOk_start hp) (by omega) (fun d done _ h9 => (by cases h9))) (h := fun q hq => ?_)
    refine wy ex ?_
    refine wy ex ?_
    refine wy asg ?_
    refine wy asg ?_
    refine nl (h := ?_)
    refine q_seq (h := ?_)
    refine rtn (h := ?_)
    refine q_ret (hR := ?_)
    exact fun w hS => ⟨⟨q.o, q.b, q.A, q.c⟩, ⟨fun h9 => by unfold WayO; rw [if_neg hm0, ← bitF_zero]; exact hq.t h9, fun h9 o h8 => by
      unfold WayO at h8
      rw [if_neg hm0, ← bitF_zero] at h8
      exact (hq.f h9).2 o h8, by have := hq.n; dsimp only; omega⟩, rfl, hS.sub slz_⟩
structure BeX where
  (m : Nat) (o : List Se) (b : Bool) (A : Option Addr) (c : Nat)
structure BeI (p : Pg) (q : BeX) : Prop where
  t : q.b = true → LeastW p q.m ∧ WayO p q.m q.o
  f : q.b = false → ∀ k, k ≤ p.days.length → NoWay p k
  n : q.o.length ≤ p.jobs.length
set_option maxRecDepth 100000 in
theorem C_play_best (p : Pg) (hp : POk p) (w : World) (h : PgR w p) :
    CR Tryz.prog 31 [p.val] w (BeI p) (fun q => .tuple #[.int .i64 q.m, .slice q.A q.o.length q.c, .bool q.b]) (fun q => [.own q.A q.c 48 3 q.o.length (encSe q.o)]) := by
  have hnd := hp.nd
  refine ⟨en Tryz.func31 Tryz.ntmps31 ((St.init w).share (e := .ro p.dA 1 p.days.length (encDy p.days)) h.d rfl rfl rfl) (h := fun F => ?_)⟩
  refine sq (h := ?_)
  refine rg (h := ?_)
  refine bxA (h := fun b0 => ?_)
  refine wy asg ?_
  refine wy asg ?_
  refine wy asg ?_
  refine nl (h := ?_)
  refine q_seq (h := ?_)
  refine sq (h := ?_)
  refine sq (h := ?_)
  refine rg (h := ?_)
  refine wy (by first | exact fa | exact faE) ?_
  refine wy (by first | exact ld | exact ldE) ?_
  refine wy lenS ?_
  refine wy (addI (hb := by omega)) ?_
  refine wy mv ?_
  refine nl (h := ?_)
  refine q_seq (h := ?_)
  refine bk (h := ?_)
  refine lp (X := Nat) (I := fun k => k ≤ p.days.length + 1 ∧ ∀ i, i < k → NoWay p i) (le := fun k => [(1, .pointer (some ⟨b0, 0, none⟩)), (11, .int .i64 ((p.days.length : Int) + 1)), (12, .int .i64 k)]) (Le := fun _ => [.blk b0 39 p.cells]) (μ := fun k => p.days.length + 1 - k) 0 ⟨Nat.zero_le _, fun i hi => absurd hi (Nat.not_lt_zero _)⟩ sbz_ slz_ (fun k hk => ?_)
  obtain ⟨hk1, hk2⟩ := hk
  refine sq (h := ?_)
  refine rg (h := ?_)
  refine wy lss ?_
  refine nl (h := ?_)
  refine q_seq (h := ?_)
  refine sq (h := ?_)
  refine cd (by exact rfl) (fun h0 => ?_) (fun h0 => ?_)
  · skip
    have hkn : k ≤ p.days.length := by have := of_decide_eq_true h0; omega
    refine skp (h := ?_)
    refine q_seq (h := ?_)
    refine sq (h := ?_)
    refine bk (h := ?_)
    refine sq (h := ?_)
    refine rg (h := ?_)
    refine wy mv ?_
    refine wy asg ?_
    refine WL.cut (by repeat (first | exact Cut.nil | apply Cut.hit | apply Cut.miss (by exact rfl))) ?_
    refine nl (h := ?_)
    refine q_seq (h := ?_)
    refine sq (h := ?_)
    refine rg (h := ?_)
    refine wy (by first | exact ldA | exact ldEA) ?_
    refine wy mv ?_
    refine cl (hc := fun w hS => C_play_order p hp k hkn w (h.old hS)) (h := fun x0 hx0 => ?_)
    refine wy mv ?_
    refine wy ex ?_
    refine wy ex ?_
    refine wy asg ?_
    refine WL.cut (by repeat (first | exact Cut.nil | apply Cut.hit | apply Cut.miss (by exact rfl))) ?_
    refine wy asg ?_
    refine WL.cut (by repeat (first | exact Cut.nil | apply Cut.hit | apply Cut.miss (by exact rfl))) ?_
    refine nl (h := ?_)
    refine q_seq (h := ?_)
    refine sq (h := ?_)
    refine rg (h := ?_)
    refine wy mv ?_
    refine nl (h := ?_)
    refine q_seq (h := ?_)
    refine cd (by exact rfl) (fun h1 => ?_) (fun h1 => ?_)
    · skip
      have hyes := hx0.1 h1
      refine sq (h := ?_)
      refine rg (h := ?_)
      refine wy mv ?_
      refine wy mv ?_
      refine wy asg ?_
      refine wy asg ?_
      refine wy asg ?_
      refine nl (h := ?_)
      refine q_seq (h := ?_)
      refine rtn (h := ?_)
      refine q_blk_ret (h := ?_)
      refine q_then_ret (h := ?_)
      refine q_then_ret (h := ?_)
      refine q_blk_ret (h := ?_)
      refine q_then_ret (h := ?_)
      refine q_ret (hR := ?_)
      exact fun w hS => ⟨⟨k, x0.o, true, x0.A, x0.c⟩, ⟨fun _ => ⟨⟨⟨_, hyes⟩, hk2, hkn⟩, hyes⟩, fun h9 => (by cases h9), hx0.2.2⟩, rfl, hS.sub slz_⟩
    · skip
      have hnot := hx0.2.1 h1
      refine skp (h := ?_)
      refine q_blk_norm (h := ?_)
      refine q_seq (h := ?_)
      refine rg (h := ?_)
      refine wy addI ?_
      refine wy mv ?_
      refine nl (h := ?_)
      refine rn (x := k) (k + 1) ⟨by omega, fun i hi => by
        by_cases e : i = k
        · subst e; exact hnot
        · exact hk2 i (by omega)⟩ (by omega) sbz_ slz_
  · skip
    have hkn : k = p.days.length + 1 := by have := of_decide_eq_false h0; omega
    refine et (h := ?_)
    refine q_then_exit (h := ?_)
    refine q_then_exit (h := ?_)
    refine q_blk_hit (h := ?_)
    refine q_seq (h := ?_)
    refine sq (h := ?_)
    refine WC.nilOwn 48 3 (h := ?_)
    refine rg (h := ?_)
    refine wy asg ?_
    refine wy asg ?_
    refine wy asg ?_
    refine nl (h := ?_)
    refine q_seq (h := ?_)
    refine rtn (h := ?_)
    refine q_ret (hR := ?_)
    exact fun w hS => ⟨⟨0, [], false, none, 0⟩, ⟨fun h9 => (by cases h9), fun _ i hi => hk2 i (by omega), Nat.zero_le _⟩, rfl, hS.sub slz_⟩
theorem C_play_Days (p : Pg) (hp : POk p) (w : World) (h : PgR w p) :
    CR Tryz.prog 10 [p.val] w (fun q : Option Nat => (∀ m, q = some m → LeastW p m) ∧ (q = none → ∀ k, k ≤ p.days.length → NoWay p k)) (fun q => .tuple #[.int .i64 ((q.getD 0 : Nat) : Int), .int .i64 (bif q.isSome then 0 else 3)]) (fun _ => []) := by
  refine ⟨en Tryz.func10 Tryz.ntmps10 (St.init w) (h := fun F => ?_)⟩
  refine sq (h := ?_)
  refine rg (h := ?_)
  refine bxA (h := fun b0 => ?_)
  refine wy asg ?_
  refine wy asg ?_
  refine nl (h := ?_)
  refine q_seq (h := ?_)
  refine sq (h := ?_)
  refine sq (h := ?_)
  refine rg (h := ?_)
  refine wy (by first | exact ldA | exact ldEA) ?_
  refine cl0 (hc := fun w hS => C_play_Check p hp w (h.old hS)) (h := ?_)
  refine wy asg ?_
  refine nl (h := ?_)
  refine q_seq (h := ?_)
  refine sq (h := ?_)
  refine rg (h := ?_)
  refine wy mv ?_
  refine wy ((Yd.fl (neq) (by decide))) ?_
  refine nl (h := ?_)
  refine q_seq (h := ?_)
  refine cdF (h := ?_)
  refine skp (h := ?_)
  refine q_seq (h := ?_)
  refine sq (h := ?_)
  refine rg (h := ?_)
  refine wy (by first | exact ldA | exact ldEA) ?_
  refine cl (hc := fun w hS => C_play_best p hp w (h.old hS)) (h := fun x0 hx0 => ?_)
  refine wy mv ?_
  refine wy ex ?_
  refine wy ex ?_
  refine wy ex ?_
  refine wy asg ?_
  refine wy asg ?_
  refine wy asg ?_
  refine nl (h := ?_)
  refine q_seq (h := ?_)
  refine sq (h := ?_)
  refine sq (h := ?_)
  refine rg (h := ?_)
  refine wy mv ?_
  refine wy notB ?_
  refine nl (h := ?_)
  refine q_seq (h := ?_)
  refine cd (by exact rfl) (fun h1 => ?_) (fun h1 => ?_)
  · skip
    have hb : x0.b = false := by simpa using h1
    refine sq (h := ?_)
    refine rg (h := ?_)
    refine wy asg ?_
    refine wy asg ?_
    refine nl (h := ?_)
    refine q_seq (h := ?_)
    refine rtn (h := ?_)
    refine q_then_ret (h := ?_)
    refine q_ret (hR := ?_)
    first
      | (have e9 := hx0.t hb; exact fun w hS => ⟨some x0.m, ⟨fun m e => by cases e; exact e9.1, fun e => (by cases e)⟩, rfl, hS.sub slz_⟩)
      | (have e9 := hx0.f hb; exact fun w hS => ⟨none, ⟨fun m e => (by cases e), fun _ => e9⟩, rfl, hS.sub slz_⟩)
  · skip
    have hb : x0.b = true := by simpa using h1
    refine skp (h := ?_)
    refine q_seq (h := ?_)
    refine sq (h := ?_)
    refine rg (h := ?_)
    refine wy mv ?_
    refine wy asg ?_
    refine wy asg ?_
    refine nl (h := ?_)
    refine q_seq (h := ?_)
    refine rtn (h := ?_)
    refine q_ret (hR := ?_)
    first
      | (have e9 := hx0.t hb; exact fun w hS => ⟨some x0.m, ⟨fun m e => by cases e; exact e9.1, fun e => (by cases e)⟩, rfl, hS.sub slz_⟩)
      | (have e9 := hx0.f hb; exact fun w hS => ⟨none, ⟨fun m e => (by cases e), fun _ => e9⟩, rfl, hS.sub slz_⟩)
structure BsX where
  (q : Option Nat) (o : List Se) (A : Option Addr) (c : Nat)
structure BsI (p : Pg) (x : BsX) : Prop where
  t : ∀ m, x.q = some m → LeastW p m ∧ WayO p m x.o
  f : x.q = none → ∀ k, k ≤ p.days.length → NoWay p k
  n : x.o.length ≤ p.jobs.length
theorem C_play_Best (p : Pg) (hp : POk p) (w : World) (h : PgR w p) :
    CR Tryz.prog 9 [p.val] w (BsI p) (fun x => .tuple #[.slice x.A x.o.length x.c, .int .i64 (bif x.q.isSome then 0 else 3)]) (fun x => [.own x.A x.c 48 3 x.o.length (encSe x.o)]) := by
  refine ⟨en Tryz.func9 Tryz.ntmps9 (St.init w) (h := fun F => ?_)⟩
  refine sq (h := ?_)
  refine rg (h := ?_)
  refine bxA (h := fun b0 => ?_)
  refine wy asg ?_
  refine wy asg ?_
  refine nl (h := ?_)
  refine q_seq (h := ?_)
  refine sq (h := ?_)
  refine sq (h := ?_)
  refine rg (h := ?_)
  refine wy (by first | exact ldA | exact ldEA) ?_
  refine cl0 (hc := fun w hS => C_play_Check p hp w (h.old hS)) (h := ?_)
  refine wy asg ?_
  refine nl (h := ?_)
  refine q_seq (h := ?_)
  refine sq (h := ?_)
  refine rg (h := ?_)
  refine wy mv ?_
  refine wy ((Yd.fl (neq) (by decide))) ?_
  refine nl (h := ?_)
  refine q_seq (h := ?_)
  refine cdF (h := ?_)
  refine skp (h := ?_)
  refine q_seq (h := ?_)
  refine sq (h := ?_)
  refine rg (h := ?_)
  refine wy (by first | exact ldA | exact ldEA) ?_
  refine cl (hc := fun w hS => C_play_best p hp w (h.old hS)) (h := fun x0 hx0 => ?_)
  refine wy mv ?_
  refine wy ex ?_
  refine wy ex ?_
  refine wy ex ?_
  refine wy asg ?_
  refine wy asg ?_
  refine wy asg ?_
  refine nl (h := ?_)
  refine q_seq (h := ?_)
  refine sq (h := ?_)
  refine sq (h := ?_)
  refine rg (h := ?_)
  refine wy mv ?_
  refine wy notB ?_
  refine nl (h := ?_)
  refine q_seq (h := ?_)
  refine cd (by exact rfl) (fun h1 => ?_) (fun h1 => ?_)
  · skip
    have hb : x0.b = false := by simpa using h1
    refine sq (h := ?_)
    refine WC.nilOwn 48 3 (h := ?_)
    refine rg (h := ?_)
    refine wy asg ?_
    refine wy asg ?_
    refine nl (h := ?_)
    refine q_seq (h := ?_)
    refine rtn (h := ?_)
    refine q_then_ret (h := ?_)
    refine q_ret (hR := ?_)
    first
      | (have e9 := hx0.t hb; exact fun w hS => ⟨⟨some x0.m, x0.o, x0.A, x0.c⟩, ⟨fun m e => by cases e; exact e9, fun e => (by cases e), hx0.n⟩, rfl, hS.sub slz_⟩)
      | (have e9 := hx0.f hb; exact fun w hS => ⟨⟨none, [], none, 0⟩, ⟨fun m e => (by cases e), fun _ => e9, Nat.zero_le _⟩, rfl, hS.sub slz_⟩)
  · skip
    have hb : x0.b = true := by simpa using h1
    refine skp (h := ?_)
    refine q_seq (h := ?_)
    refine sq (h := ?_)
    refine rg (h := ?_)
    refine wy mv ?_
    refine wy asg ?_
    refine wy asg ?_
    refine nl (h := ?_)
    refine q_seq (h := ?_)
    refine rtn (h := ?_)
    refine q_ret (hR := ?_)
    first
      | (have e9 := hx0.t hb; exact fun w hS => ⟨⟨some x0.m, x0.o, x0.A, x0.c⟩, ⟨fun m e => by cases e; exact e9, fun e => (by cases e), hx0.n⟩, rfl, hS.sub slz_⟩)
      | (have e9 := hx0.f hb; exact fun w hS => ⟨⟨none, [], none, 0⟩, ⟨fun m e => (by cases e), fun _ => e9, Nat.zero_le _⟩, rfl, hS.sub slz_⟩)
end Go.Proofs.YtmlhnajgiopfgaaGreat

namespace Go.Proofs.YtmlhnajgiopfgaaGreat
open Go Go.RowKit

theorem winM_in {M : MM} {a : Nat} {x : Int} {n : Nat} (h : ∀ r, r < n → M r (a / 2 ^ (r + 1)) = -2 ∨ M r (a / 2 ^ (r + 1)) = x) : winM M a x n = some (wonM M a x n) := (winM_iff M a x n _).2 ⟨h, rfl⟩
theorem drM_pre (all : List Sl) (x : Sl) (sl : List Int) : ∀ k, k ≤ all.length → drM (all ++ [x]) sl k = drM all sl k
  | 0, _ => rfl
  | k + 1, hk => by
    rw [drM, drM, drM_pre all x sl k (by omega), List.getElem?_append_left (by omega)]
    cases drM all sl k with
    | none => rfl
    | some M =>
      dsimp only
      cases e : all[k]? with
      | none => rfl
      | some y =>
        dsimp only
        unfold slipM
        rw [List.take_append_of_le_length (by omega)]
theorem DrO.side {t : Tre} {l : List Sl} {d : Dr} (h : DrO t l d) {r p σ : Nat} {v : Int} (hσ : σ < 2) (hv : ofV d r p σ = v) (h0 : 0 ≤ v) (hr0 : r = 0 → 2 * p + σ < d.sl.length) : ∃ s, s < d.sl.length ∧ d.sl.getD s 0 = v ∧ s / 2 ^ (r + 1) = p ∧ ∀ r', r' < r → d.M r' (s / 2 ^ (r' + 1)) = v := by
  unfold ofV at hv
  by_cases e : r = 0
  · rw [if_pos e] at hv
    exact ⟨2 * p + σ, hr0 e, hv, by rw [e]; show (2 * p + σ) / 2 = p; omega, fun r' hr' => by omega⟩
  · rw [if_neg e] at hv
    obtain ⟨s, h1, h2, -, h3, h4⟩ := h.clo (r := r - 1) (p := 2 * p + σ) (by rw [hv]; omega)
    refine ⟨s, h1, by rw [← h2, hv], ?_, fun r' hr' => by rw [h4 r' (by omega), ← h2, hv]⟩
    rw [show r - 1 + 1 = r by omega] at h3
    rw [Nat.pow_succ, ← Nat.div_div_eq_div_mul, ← h3]; omega
theorem Agr.more {t : Tre} {l : List Sl} {d : Dr} (h : Agr t l d) {r p σ : Nat} {v : Int} (hr : r < t.R.toNat) (hp : p < szN t r) (hM : d.M r p = -2) (hσ : σ < 2) (hv : ofV d r p σ = v) (h0 : 0 ≤ v) (hl : l.length ≤ 59) : Agr t (l ++ [⟨1, r, p, v, 0⟩]) ⟨d.sl, upM d.M r p v⟩ := by
  obtain ⟨ho, hpl, hdr⟩ := h.o
  have ht := h.tr
  have hz := sz_zero ht
  have hPn := ho.p.n
  obtain ⟨s, hs1, hs2, hs3, hs4⟩ := ho.side hσ hv h0 (fun e => by rw [e] at hp; omega)
  have hrng := ho.p.rng s hs1
  have hx : slpB t ⟨1, r, p, v, 0⟩ = true := by
    have hm := match_ok (t := t) hr hp
    unfold slpB
    have e1 : win v 0 999 = true := win_iff.2 (by omega)
    have e2 : win (1 : Int) 1 4 = true := by decide
    have e3 : (decide (0 < (r : Int)) || (!decide (t.sl.getD (2 * (p : Int)).toNat 0 = -1) && !decide (t.sl.getD (2 * (p : Int) + 1).toNat 0 = -1))) = true := by
      by_cases e : r = 0
      · subst e
        have ha : ∀ i, i < 2 → ¬ t.sl.getD (2 * p + i) 0 = -1 := fun i hi e4 => by
          have hlt : 2 * p + i < d.sl.length := by omega
          have e5 := (ho.p.bye _ hlt).2 e4
          have htl := twin_lt hlt ho.p.ev
          have hc : Cov d.sl l 0 p (twin (2 * p + i)) := ⟨htl, by
            unfold twin; show p = (if (2 * p + i) % 2 = 0 then 2 * p + i + 1 else 2 * p + i - 1) / 2
            split <;> omega, .inl ⟨rfl, by rw [show twin (twin (2 * p + i)) = 2 * p + i by unfold twin; split <;> split <;> omega]; exact e5⟩⟩
          have := ho.i.b _ _ _ hc
          have := ho.p.rng _ htl
          omega
        have h1 := ha 0 (by omega)
        have h2 := ha 1 (by omega)
        rw [show (2 * (p : Int)).toNat = 2 * p + 0 by omega, show (2 * (p : Int) + 1).toNat = 2 * p + 1 by omega, decide_eq_false h1, decide_eq_false h2]; rfl
      · rw [decide_eq_true (by omega)]; rfl
    rw [e1]
    show (true && (bif decide ((1 : Int) = 5) then _ else ((win (1 : Int) 1 4 && matchB t r p) && decide ((0 : Int) = 0)) && _)) = true
    rw [show decide ((1 : Int) = 5) = false from rfl, cond_false, e2, hm]
    exact e3
  have hk5 : (⟨1, r, p, v, 0⟩ : Sl).kind ≠ 5 := (by decide : (1 : Int) ≠ 5)
  have hcov : Cov d.sl (l ++ [⟨1, r, p, v, 0⟩]) r p s := ⟨hs1, hs3.symm, .inr ⟨_, List.mem_append_right _ (List.mem_singleton.2 rfl), hk5, hs2, by show r ≤ ((r : Nat) : Int).toNat; omega⟩⟩
  have hsame : ∀ y ∈ l, y.kind ≠ 5 → y.round = r → y.place = p → False := fun y hy h5 h6 h7 => by
    obtain ⟨s', h8, h9, h10⟩ := ho.i.c y hy h5
    rw [h6, h7, Int.toNat_natCast] at h10
    have := ho.i.b r p s' ⟨h8, by omega, .inr ⟨y, hy, h5, h9, by rw [h6]; omega⟩⟩
    have := ho.p.rng s' h8
    omega
  have hnin : ¬ (⟨1, r, p, v, 0⟩ : Sl) ∈ l := fun h9 => hsame _ h9 hk5 rfl rfl
  refine ⟨ht, by rw [List.length_append, List.length_singleton]; omega, fun y hy => ?_, ?_⟩
  · rcases List.mem_append.1 hy with hy | hy
    · exact h.s y hy
    · rw [List.mem_singleton] at hy; rw [hy]; exact hx
  · have hon : onceL (l ++ [⟨1, r, p, v, 0⟩]) = onceL l ++ [⟨1, r, p, v, 0⟩] := by
      rw [once_snoc]; unfold addO; rw [if_neg (fun h9 => hnin (mem_once.1 h9))]
    refine draw_yes (sl := d.sl) (M := upM d.M r p v) (by rw [players_more hk5 hnin]; exact hpl) ?_
    rw [hon, List.length_append, List.length_singleton, drM_step (by rw [drM_pre _ _ _ _ (Nat.le_refl _)]; exact hdr) (by rw [List.getElem?_append_right (Nat.le_refl _), Nat.sub_self]; rfl)]
    unfold slipM
    rw [if_neg hk5, if_neg (by
      rw [List.take_left, List.any_eq_true]
      rintro ⟨y, hy, h9⟩
      obtain ⟨h5, h6, h7⟩ := sameM_iff.1 h9
      exact hsame y (mem_once.1 hy) h5 h6 h7)]
    have hix : lastIx d.sl v d.sl.length = (s : Nat) := by
      obtain ⟨j, h1, h2, h3⟩ := lastIx_hit d.sl v hs2 d.sl.length hs1
      rw [h2, ho.p.inj j s h1 hs1 (by rw [h3, hs2]) (by rw [h3]; omega)]
    show (if lastIx d.sl v d.sl.length < 0 ∨ ¬ lastIx d.sl v d.sl.length / 2 ^ ((r : Int) + 1).toNat = (p : Int) then none else winM d.M (lastIx d.sl v d.sl.length).toNat v ((r : Int).toNat + 1)) = _
    rw [hix, if_neg (by
      rw [not_or, Decidable.not_not, show ((r : Int) + 1).toNat = r + 1 by omega, div_cast, hs3]
      exact ⟨by omega, rfl⟩), Int.toNat_natCast, Int.toNat_natCast]
    have hw : ∀ r', r' < r + 1 → d.M r' (s / 2 ^ (r' + 1)) = -2 ∨ d.M r' (s / 2 ^ (r' + 1)) = v := fun r' hr' => by
      by_cases e : r' = r
      · subst e; rw [hs3]; exact .inl hM
      · exact .inr (hs4 r' (by omega))
    rw [winM_in hw]
    congr 1
    funext r' p'
    unfold wonM upM
    by_cases e : r' = r
    · subst e
      by_cases e2 : p' = p
      · rw [if_pos ⟨by omega, by rw [hs3]; exact e2⟩, if_pos ⟨rfl, e2⟩]
      · rw [if_neg (fun h9 => e2 (by rw [h9.2, hs3])), if_neg (fun h9 => e2 h9.2)]
    · by_cases e2 : r' < r + 1 ∧ p' = s / 2 ^ (r' + 1)
      · rw [if_pos e2, if_neg (fun h9 => e h9.1), e2.2, hs4 r' (by omega)]
      · rw [if_neg e2, if_neg (fun h9 => e h9.1)]

abbrev RP := Nat × Nat
def posRow (r k : Nat) : List RP := (List.range k).map fun p => (r, p)
def posTil (t : Tre) (k : Nat) : List RP := (List.range k).flatMap fun r => posRow r (szN t r)
def posL (t : Tre) : List RP := posTil t t.R.toNat
def openP (t : Tre) (d : Dr) : List RP := (posL t).filter fun x => decide (d.M x.1 x.2 = -2)
theorem bo_pos (t : Tre) (d : Dr) : boL t d = (posL t).map fun x => boV d x.1 x.2 := by
  unfold boL posL boTil posTil boRow posRow
  rw [List.map_flatMap]
  simp only [List.map_map]
  rfl
theorem filter_map_dec {α β : Type} (f : α → β) (p : β → Bool) : ∀ l : List α, (l.map f).filter p = (l.filter fun x => p (f x)).map f
  | [] => rfl
  | x :: l => by
    rw [List.map_cons, List.filter_cons, List.filter_cons, filter_map_dec f p l]
    split <;> rfl
theorem open_pos (t : Tre) (d : Dr) : openL t d = (openP t d).map fun x => boV d x.1 x.2 := by
  unfold openL openP
  rw [bo_pos, filter_map_dec]
  congr 1
theorem posRow_mem {r k : Nat} {x : RP} : x ∈ posRow r k ↔ x.1 = r ∧ x.2 < k := by
  unfold posRow
  rw [List.mem_map]
  constructor
  · rintro ⟨p, hp, rfl⟩; exact ⟨rfl, List.mem_range.1 hp⟩
  · rintro ⟨rfl, h⟩; exact ⟨x.2, List.mem_range.2 h, rfl⟩
theorem posTil_mem {t : Tre} {k : Nat} {x : RP} : x ∈ posTil t k ↔ x.1 < k ∧ x.2 < szN t x.1 := by
  unfold posTil
  rw [List.mem_flatMap]
  constructor
  · rintro ⟨r, hr, hx⟩
    obtain ⟨rfl, h⟩ := posRow_mem.1 hx
    exact ⟨List.mem_range.1 hr, h⟩
  · rintro ⟨h1, h2⟩; exact ⟨x.1, List.mem_range.2 h1, posRow_mem.2 ⟨rfl, h2⟩⟩
def ltP2 (x y : RP) : Prop := x.1 < y.1 ∨ (x.1 = y.1 ∧ x.2 < y.2)
theorem posRow_pw (r k : Nat) : (posRow r k).Pairwise ltP2 := by
  unfold posRow
  rw [List.pairwise_map]
  exact List.pairwise_lt_range.imp fun h => .inr ⟨rfl, h⟩
theorem posTil_pw (t : Tre) : ∀ k, (posTil t k).Pairwise ltP2
  | 0 => List.Pairwise.nil
  | k + 1 => by
    have e : posTil t (k + 1) = posTil t k ++ posRow k (szN t k) := by
      unfold posTil
      rw [List.range_succ, List.flatMap_append, List.flatMap_singleton]
    rw [e, List.pairwise_append]
    exact ⟨posTil_pw t k, posRow_pw _ _, fun x hx y hy => .inl (by rw [(posRow_mem.1 hy).1]; exact (posTil_mem.1 hx).1)⟩
theorem openP_pw (t : Tre) (d : Dr) : (openP t d).Pairwise ltP2 := (posTil_pw t _).filter _
theorem openP_mem {t : Tre} {d : Dr} {x : RP} : x ∈ openP t d ↔ x.1 < t.R.toNat ∧ x.2 < szN t x.1 ∧ d.M x.1 x.2 = -2 := by
  unfold openP posL
  rw [List.mem_filter, posTil_mem, decide_eq_true_eq, and_assoc]
theorem ltP2_irr {x : RP} : ¬ ltP2 x x := fun h => by rcases h with h | h <;> omega
theorem openP_nd (t : Tre) (d : Dr) : (openP t d).Nodup := by
  refine List.Pairwise.imp (fun {a b} h e => ?_) (openP_pw t d)
  subst e
  exact ltP2_irr h
theorem openP_lt {t : Tre} {d : Dr} {i j : Nat} {x y : RP} (hi : (openP t d)[i]? = some x) (hj : (openP t d)[j]? = some y) (h : ltP2 x y) : i < j := by
  obtain ⟨h1, h2⟩ := List.getElem?_eq_some_iff.1 hi
  obtain ⟨h3, h4⟩ := List.getElem?_eq_some_iff.1 hj
  rcases Nat.lt_trichotomy i j with e | e | e
  · exact e
  · subst e; rw [h2] at h4; rw [h4] at h; exact (ltP2_irr h).elim
  · have := List.pairwise_iff_getElem.1 (openP_pw t d) j i h3 h1 e
    rw [h2, h4] at this
    rcases h with h | h <;> rcases this with h' | h' <;> omega
theorem filter_erase {α : Type} [DecidableEq α] : ∀ {l : List α} {i : Nat} {a : α}, l.Nodup → l[i]? = some a → (l.filter fun x => decide (x ≠ a)) = l.eraseIdx i
  | [], _, _, _, h => by cases h
  | x :: l, 0, a, hn, h => by
    cases h
    rw [List.nodup_cons] at hn
    rw [List.filter_cons_of_neg (by simp), List.eraseIdx_cons_zero]
    refine List.filter_eq_self.2 fun y hy => decide_eq_true fun e => hn.1 (e ▸ hy)
  | x :: l, i + 1, a, hn, h => by
    rw [List.nodup_cons] at hn
    have hm : a ∈ l := List.mem_of_getElem? (i := i) h
    rw [List.filter_cons_of_pos (by rw [decide_eq_true_eq]; exact fun e => hn.1 (e ▸ hm)), List.eraseIdx_cons_succ, filter_erase hn.2 h]
theorem openP_more {t : Tre} {d : Dr} {r p own : Nat} {v : Int} (ho : (openP t d)[own]? = some (r, p)) (hv : v ≠ -2) : openP t ⟨d.sl, upM d.M r p v⟩ = (openP t d).eraseIdx own := by
  rw [← filter_erase (openP_nd t d) ho]
  unfold openP
  rw [List.filter_filter]
  congr 1
  funext x
  show decide (upM d.M r p v x.1 x.2 = -2) = _
  unfold upM
  by_cases e : x.1 = r ∧ x.2 = p
  · rw [if_pos e, decide_eq_false hv, decide_eq_false (by rw [Decidable.not_not]; exact Prod.ext e.1 e.2), Bool.false_and]
  · rw [if_neg e, decide_eq_true (show x ≠ (r, p) from fun e2 => e ⟨by rw [e2], by rw [e2]⟩), Bool.true_and]
end Go.Proofs.YtmlhnajgiopfgaaGreat

namespace Go.Proofs.YtmlhnajgiopfgaaGreat
open Go Go.RowKit

theorem C_IndexStage {A : Option Addr} {n c : Nat} {es : List (List Value)} {g : FuncId} (hg : FnOk Tryz.prog g) (fi cap : List Value) (Lp : List Ent) (p : Nat → Bool) (hn : n ≤ 9223372036854775807)
    (hp : ∀ k cs, es[k]? = some cs → Tr Tryz.prog g (fi ++ [.agg cs.toArray] ++ cap) (.ro A 3 n es :: Lp) (fun _ : Unit => True) (fun _ => .bool (p k)) (fun _ => .ro A 3 n es :: Lp)) :
    Tr Tryz.prog 45 [.slice A n c, .func (.func g) fi.toArray cap.toArray] (.ro A 3 n es :: Lp) (Fst p n) (fun j => .int .i64 j) (fun _ => .ro A 3 n es :: Lp) := by
  refine ⟨fun w0 w R hst => ?_⟩
  have hlen : es.length = n := (hst.ok (.ro A 3 n es) (by simp)).len
  refine en Tryz.func45 Tryz.ntmps45 hst (h := fun F => ?_)
  refine sq (h := ?_)
  refine rg (h := ?_)
  refine wy asg ?_
  refine nl (h := ?_)
  refine q_seq (h := ?_)
  refine sq (h := ?_)
  refine sq (h := ?_)
  refine rg (h := ?_)
  refine wy mv ?_
  refine wy lenS ?_
  refine wy mv ?_
  refine nl (h := ?_)
  refine q_seq (h := ?_)
  refine bk (h := ?_)
  refine lp (X := Nat) (I := fun k => k ≤ n ∧ ∀ i, i < k → p i = false) (le := fun k => [(0, .slice A n c), (1, .func (.func g) fi.toArray cap.toArray), (7, .int .i64 n), (8, .int .i64 k)]) (Le := fun _ => .ro A 3 n es :: (Lp ++ R)) (μ := fun k => n - k) 0 ⟨by omega, fun i hi => by omega⟩ sbz_ (SubL.refl _) (fun k hk => ?_)
  obtain ⟨hk, hall⟩ := hk
  refine sq (h := ?_)
  refine rg (h := ?_)
  refine wy lss ?_
  refine nl (h := ?_)
  refine q_seq (h := ?_)
  refine sq (h := ?_)
  refine cd (by exact rfl) (fun h0 => ?_) (fun h0 => ?_)
  · skip
    have hkn : k < n := by simp only [decide_eq_true_eq] at h0; omega
    have hes : es[k]? = some es[k] := List.getElem?_eq_getElem (by omega)
    refine skp (h := ?_)
    refine q_seq (h := ?_)
    refine sq (h := ?_)
    refine bk (h := ?_)
    refine sq (h := ?_)
    refine rg (h := ?_)
    refine wy mv ?_
    refine wy asg ?_
    refine nl (h := ?_)
    refine q_seq (h := ?_)
    refine sq (h := ?_)
    refine rg (h := ?_)
    refine wy mv ?_
    refine wy mv ?_
    refine wy mv ?_
    refine wy ix ?_
    refine wy (ldEW (k := k) (cs := es[k]) (hk := hes)) ?_
    refine clfT hg (fi := fi) (cap := cap) (by exact rfl) (by repeat (first | exact Evs.nil | (apply Evs.cons; exact rfl))) (hp k _ hes) rfl (Spl.cons .here (Spl.app _ _)) (h := fun _ _ => ?_)
    refine nl (h := ?_)
    refine q_seq (h := ?_)
    refine cd (by exact rfl) (fun h1 => ?_) (fun h1 => ?_)
    · skip
      refine sq (h := ?_)
      refine rg (h := ?_)
      refine wy mv ?_
      refine wy asg ?_
      refine nl (h := ?_)
      refine q_seq (h := ?_)
      refine rtn (h := ?_)
      refine q_blk_ret (h := ?_)
      refine q_then_ret (h := ?_)
      refine q_then_ret (h := ?_)
      refine q_blk_ret (h := ?_)
      refine q_then_ret (h := ?_)
      refine q_ret (hR := ?_)
      exact fun w hS => ⟨_, .inl ⟨k, hkn, rfl, by assumption, hall⟩, rfl, hS⟩
    · skip
      refine skp (h := ?_)
      refine q_blk_norm (h := ?_)
      refine q_seq (h := ?_)
      refine rg (h := ?_)
      refine wy addI ?_
      refine wy mv ?_
      refine nl (h := ?_)
      refine rn (k + 1) ⟨by omega, fun i hi => ?_⟩ (by omega) sbz_ (SubL.refl _)
      rcases Nat.lt_succ_iff_lt_or_eq.1 hi with h | rfl
      · exact hall i h
      · assumption
  · skip
    have hkn : k = n := by simp only [decide_eq_false_iff_not] at h0; omega
    refine et (h := ?_)
    refine q_then_exit (h := ?_)
    refine q_then_exit (h := ?_)
    refine q_blk_hit (h := ?_)
    refine q_seq (h := ?_)
    refine sq (h := ?_)
    refine rg (h := ?_)
    refine wy asg ?_
    refine nl (h := ?_)
    refine q_seq (h := ?_)
    refine rtn (h := ?_)
    refine q_ret (hR := ?_)
    exact fun w hS => ⟨_, .inr ⟨rfl, by subst hkn; exact hall⟩, rfl, hS⟩
theorem C_ContainsStage {A : Option Addr} {n c : Nat} {es : List (List Value)} {g : FuncId} (hg : FnOk Tryz.prog g) (fi cap : List Value) (Lp : List Ent) (p : Nat → Bool) (hn : n ≤ 9223372036854775807)
    (hp : ∀ k cs, es[k]? = some cs → Tr Tryz.prog g (fi ++ [.agg cs.toArray] ++ cap) (.ro A 3 n es :: Lp) (fun _ : Unit => True) (fun _ => .bool (p k)) (fun _ => .ro A 3 n es :: Lp)) :
    Tr Tryz.prog 25 [.slice A n c, .func (.func g) fi.toArray cap.toArray] (.ro A 3 n es :: Lp) (fun _ : Unit => True) (fun _ => .bool ((List.range n).any p)) (fun _ => .ro A 3 n es :: Lp) := by
  refine ⟨fun w0 w R hst => ?_⟩
  refine en Tryz.func25 Tryz.ntmps25 hst (h := fun F => ?_)
  refine sq (h := ?_)
  refine rg (h := ?_)
  refine wy asg ?_
  refine nl (h := ?_)
  refine q_seq (h := ?_)
  refine sq (h := ?_)
  refine rg (h := ?_)
  refine wy mv ?_
  refine wy mv ?_
  refine clT (hc := C_IndexStage hg fi cap Lp p hn hp) (hs := Spl.cons .here (Spl.app _ _)) (h := fun x0 hx0 => ?_)
  refine wy geq ?_
  refine wy asg ?_
  refine nl (h := ?_)
  refine q_seq (h := ?_)
  refine rtn (h := ?_)
  refine q_ret (hR := ?_)
  exact fun w hS => ⟨(), trivial, by simp only [resV, hx0.any], hS⟩
theorem C_play_Jobs1 (s : Stg) (h : 1 ≤ s.len.1 ∧ s.len.1 ≤ s.len.2 ∧ s.len.2 ≤ 600) (hd : 0 ≤ s.due ∧ s.due ≤ 2) (w : World) : C0 Tryz.prog 26 [.agg #[.int .i64 s.len.1, .int .i64 s.len.2, .int .i64 s.due]] w (.bool false) := by
  refine ⟨en Tryz.func26 Tryz.ntmps26 (St.init w) (h := fun F => ?_)⟩
  refine sq (h := ?_)
  refine rg (h := ?_)
  refine bxA (h := fun b0 => ?_)
  refine wy asg ?_
  refine nl (h := ?_)
  refine q_seq (h := ?_)
  refine sq (h := ?_)
  refine rg (h := ?_)
  refine wy (by first | exact fa | exact faE) ?_
  refine wy (by first | exact ldA | exact ldEA) ?_
  refine wy (by first | exact fa | exact faE) ?_
  refine wy (by first | exact ld | exact ldE) ?_
  refine cl0 (hc := fun w hS => C_play_isStage s.len s.due h hd w) (h := ?_)
  refine wy notB ?_
  refine wy asg ?_
  refine nl (h := ?_)
  refine q_seq (h := ?_)
  refine rtn (h := ?_)
  refine q_ret (hR := ?_)
  exact fun w hS => ⟨rfl, hS.sub slz_⟩

def bo0 : Bo := ⟨0, 0, 0, 0⟩
def befBo (x b : Bo) : Bool := decide (x.r = b.r - 1) && decide (x.p / 2 = b.p)
def afTil (ob : List Bo) (b : Bo) (n : Nat) : List Int := ((List.range n).filter fun i => befBo (ob.getD i bo0) b).map fun i => ((i : Nat) : Int)
theorem afTil_succ {ob : List Bo} {b x : Bo} {n : Nat} (h : ob[n]? = some x) : afTil ob b (n + 1) = if befBo x b = true then afTil ob b n ++ [(n : Int)] else afTil ob b n := by
  unfold afTil
  rw [List.range_succ, List.filter_append]
  have e : ob.getD n bo0 = x := by rw [List.getD_eq_getElem?_getD, h]; rfl
  by_cases hb : befBo x b = true
  · rw [if_pos hb, List.filter_cons_of_pos (by rw [e]; exact hb), List.filter_nil, List.map_append]; rfl
  · rw [if_neg hb, List.filter_cons_of_neg (by rw [e]; exact hb), List.filter_nil, List.append_nil]
theorem afTil_len (ob : List Bo) (b : Bo) (n : Nat) : (afTil ob b n).length ≤ n := by
  unfold afTil
  rw [List.length_map]
  exact Nat.le_trans (List.length_filter_le ..) (by rw [List.length_range]; exact Nat.le_refl _)
theorem afTil_pre {ob ob' : List Bo} {b : Bo} {n : Nat} (h : ∀ i, i < n → ob.getD i bo0 = ob'.getD i bo0) : afTil ob b n = afTil ob' b n := by
  unfold afTil
  congr 1
  refine List.filter_congr fun i hi => ?_
  rw [h i (List.mem_range.1 hi)]
structure JbS (ob : List Bo) (sg : List Stg) (js : List Jb) : Prop where
  n : js.length = ob.length
  a : ∀ k j, js[k]? = some j → ∃ b s, ob[k]? = some b ∧ sg[b.r.toNat]? = some s ∧ (j.len = s.len ∧ j.due = s.due ∧ j.ear = 0) ∧ j.af = afTil ob b k ∧ j.wi = [] ∧ j.wA = none ∧ j.wc = 0
theorem JbS.nil (sg : List Stg) : JbS [] sg [] := ⟨rfl, fun k j h => (by cases h)⟩
theorem JbS.add {ob : List Bo} {sg : List Stg} {js : List Jb} (h : JbS ob sg js) {b : Bo} {s : Stg} (hs : sg[b.r.toNat]? = some s) (A : Option Addr) (c : Nat) : JbS (ob ++ [b]) sg (js ++ [⟨s.len, afTil ob b ob.length, A, c, [], none, 0, s.due, 0⟩]) := by
  have hp : ∀ k (b' : Bo), k ≤ ob.length → afTil ob b' k = afTil (ob ++ [b]) b' k := fun k b' hk => afTil_pre fun i hi => by
    rw [List.getD_eq_getElem?_getD, List.getD_eq_getElem?_getD, List.getElem?_append_left (by omega)]
  refine ⟨by rw [List.length_append, List.length_append, h.n]; rfl, fun k j hk => ?_⟩
  by_cases e : k < js.length
  · rw [List.getElem?_append_left e] at hk
    obtain ⟨b', s', h1, h2, h3, h4, h5⟩ := h.a k j hk
    have hn := h.n
    exact ⟨b', s', by rw [List.getElem?_append_left (by omega)]; exact h1, h2, h3, by rw [← hp k b' (by omega)]; exact h4, h5⟩
  · have e2 : k = js.length := by
      have := (List.getElem?_eq_some_iff.1 hk).1
      rw [List.length_append, List.length_singleton] at this
      omega
    subst e2
    rw [List.getElem?_append_right (Nat.le_refl _), Nat.sub_self] at hk
    cases hk
    have hn := h.n
    exact ⟨b, s, by rw [hn, List.getElem?_append_right (Nat.le_refl _), Nat.sub_self]; rfl, hs, ⟨rfl, rfl, rfl⟩, by rw [hn, ← hp _ b (Nat.le_refl _)], rfl, rfl, rfl⟩
structure JsZ where
  (k : Nat) (js : List Jb) (A : Option Addr) (c : Nat) (B : Option Addr) (m : Nat)
structure AfZ where
  (i : Nat) (A : Option Addr) (c : Nat)
structure JsX where
  (js : List Jb) (A : Option Addr) (c : Nat) (B : Option Addr) (m : Nat)
theorem opTil_boK {t : Tre} {d : Dr} {k : Nat} (h : k < (boL t d).length) : opTil t d (k + 1) = if opB d (boK t d k) = true then opTil t d k ++ [boK t d k] else opTil t d k := opTil_succ (bo_get h)
set_option maxRecDepth 100000 in
set_option maxHeartbeats 2000000 in
theorem C_play_Jobs (t : Tre) (l : List Sl) (d : Dr) (ha : Agr t l d) (hc : t.sl.length ≤ t.c) (sg : List Stg) (hsg : StO t sg) (ho6 : (openL t d).length ≤ 6) (A : Option Addr) (c : Nat) (sA : Option Addr) (sc : Nat) (w : World) (h : Rd w t.A 1 t.sl.length (enI t.sl)) (hL : Rd w A 5 l.length (encSl l)) (hS8 : Rd w sA 3 sg.length (encStg sg)) :
    CR Tryz.prog 7 [t.val, .slice A l.length c, .slice sA sg.length sc] w (fun x : JsX => JbS (openL t d) sg x.js) (fun x => .tuple #[.slice x.A x.js.length x.c, .slice x.B (openL t d).length x.m, .int .i64 0]) (fun x => [.own x.A x.c 80 6 x.js.length (encJb x.js), ownBo x.B x.m (openL t d), manyE true (x.js.map afR)]) := by
  have hR := ha.tr.r
  have hbl := bo_len ha.tr d
  have hsn := hsg.n
  refine ⟨en Tryz.func7 Tryz.ntmps7 ((((St.init w).share (e := .ro t.A 1 t.sl.length (enI t.sl)) h rfl rfl rfl).share (e := .ro A 5 l.length (encSl l)) hL rfl rfl rfl).share (e := .ro sA 3 sg.length (encStg sg)) hS8 rfl rfl rfl) (h := fun F => ?_)⟩
  refine sq (h := ?_)
  refine rg (h := ?_)
  refine bxA (h := fun b0 => ?_)
  refine wy asg ?_
  refine wy asg ?_
  refine wy asg ?_
  refine nl (h := ?_)
  refine q_seq (h := ?_)
  refine sq (h := ?_)
  refine rg (h := ?_)
  refine wy (by first | exact ldA | exact ldEA) ?_
  refine wy mv ?_
  refine cl (hc := fun w hS => C_br_Bouts t l d ha hc A c w (hS.get rdz_) (hS.get rdz_)) (h := fun x0 hx0 => ?_)
  refine wy mv ?_
  refine wy ex ?_
  refine wy ex ?_
  refine wy asg ?_
  refine wy asg ?_
  refine nl (h := ?_)
  refine q_seq (h := ?_)
  refine sq (h := ?_)
  refine sq (h := ?_)
  refine rg (h := ?_)
  refine wy mv ?_
  refine wy ((Yd.fl (neq) (by decide))) ?_
  refine nl (h := ?_)
  refine q_seq (h := ?_)
  refine cdF (h := ?_)
  refine skp (h := ?_)
  refine q_seq (h := ?_)
  refine sq (h := ?_)
  refine sq (h := ?_)
  refine rg (h := ?_)
  refine wy mv ?_
  refine wy lenS ?_
  refine wy (by first | exact fa | exact faE) ?_
  refine wy (by first | exact ld | exact ldE) ?_
  refine wy ((Yd.fl (neq) (by rw [decide_eq_true hsn]; rfl))) ?_
  refine wy mv ?_
  refine un (h := ?_)
  refine wy mv ?_
  refine un (h := ?_)
  refine clT (hc := C_ContainsStage (A := sA) (n := sg.length) (c := sc) (es := encStg sg) (g := 26) inferInstance [] [] [] (fun _ => false) (by omega) (fun i cs hcs => by
    obtain ⟨s, hs, rfl⟩ : ∃ s, sg[i]? = some s ∧ s.cells = cs := by
      unfold encStg at hcs
      rw [List.getElem?_map, Option.map_eq_some_iff] at hcs
      exact hcs
    have hsv := hsg.s s (List.mem_of_getElem? hs)
    exact C0.tr _ (C_play_Jobs1 s hsv.1 hsv.2))) (hs := Spl.cons atz_ (Spl.app _ _)) (h := fun _ _ => ?_)
  rw [no_any]
  refine wy (by first | exact pkT | exact pkF) ?_
  refine nl (h := ?_)
  refine q_seq (h := ?_)
  refine cdF (h := ?_)
  refine skp (h := ?_)
  refine q_seq (h := ?_)
  refine sq (h := ?_)
  refine rg (h := ?_)
  refine wy asg ?_
  refine WL.cut (by repeat (first | exact Cut.nil | apply Cut.hit | apply Cut.miss (by exact rfl))) ?_
  refine nl (h := ?_)
  refine q_seq (h := ?_)
  refine sq (h := ?_)
  refine rg (h := ?_)
  refine wy asg ?_
  refine WL.cut (by repeat (first | exact Cut.nil | apply Cut.hit | apply Cut.miss (by exact rfl))) ?_
  refine nl (h := ?_)
  refine q_seq (h := ?_)
  refine sq (h := ?_)
  refine sq (h := ?_)
  refine WC.nilOwn 80 6 (h := ?_)
  refine WC.nilOwn 50 4 (h := ?_)
  refine WC.many0 (h := ?_)
  refine rg (h := ?_)
  refine wy mv ?_
  refine wy lenS ?_
  refine wy mv ?_
  refine nl (h := ?_)
  refine q_seq (h := ?_)
  refine bk (h := ?_)
  refine lp (X := JsZ) (I := fun z => z.k ≤ (boL t d).length ∧ JbS (opTil t d z.k) sg z.js) (le := fun z => [(1, .slice A l.length c), (2, .slice sA sg.length sc), (3, .pointer (some ⟨b0, 0, none⟩)), (11, .slice z.A z.js.length z.c), (12, .slice z.B (opTil t d z.k).length z.m), (38, .slice x0.1 (boL t d).length x0.2), (39, .int .i64 (boL t d).length), (40, .int .i64 z.k)]) (Le := fun z => [.own z.A z.c 80 6 z.js.length (encJb z.js), .own z.B z.m 50 4 (opTil t d z.k).length (encBo (opTil t d z.k)), manyE true (z.js.map afR), ownBo x0.1 x0.2 (boL t d), .ro sA 3 sg.length (encStg sg), .ro A 5 l.length (encSl l), .ro t.A 1 t.sl.length (enI t.sl), .blk b0 24 t.cells]) (μ := fun z => (boL t d).length - z.k) ⟨0, [], none, 0, none, 0⟩ ⟨Nat.zero_le _, JbS.nil sg⟩ sbz_ slz_ (fun z hz => ?_)
  obtain ⟨hz1, hzj⟩ := hz
  have hzn2 := hzj.n
  refine sq (h := ?_)
  refine rg (h := ?_)
  refine wy lss ?_
  refine nl (h := ?_)
  refine q_seq (h := ?_)
  refine sq (h := ?_)
  refine cd (by exact rfl) (fun h2 => ?_) (fun h2 => ?_)
  · skip
    have hzn : z.k < (boL t d).length := by have := of_decide_eq_true h2; omega
    obtain ⟨r, p, hr, hp, hbe⟩ := boK_mem hzn
    have hbe2 : (encBo (boL t d))[z.k]? = some (boV d r p).cells := by rw [← hbe]; exact encBo_at (bo_get hzn)
    have hot := opTil_boK hzn
    rw [hbe] at hot
    have hol : (opTil t d z.k).length ≤ z.k := by unfold opTil; exact Nat.le_trans (List.length_filter_le ..) (by rw [List.length_take]; omega)
    have hpl := szN_le (t := t) (by omega) r
    obtain ⟨s, hs⟩ : ∃ s, sg[r]? = some s := ⟨_, List.getElem?_eq_getElem (by omega)⟩
    have hse := encStg_at hs
    refine skp (h := ?_)
    refine q_seq (h := ?_)
    refine sq (h := ?_)
    refine bk (h := ?_)
    refine sq (h := ?_)
    refine rg (h := ?_)
    refine wy (ix (A := x0.1) (m := (boL t d).length) (hb := by omega)) ?_
    refine wy (ldEW (A := x0.1) (cs := (boV d r p).cells) (hk := hbe2)) ?_
    refine al (h := fun b1 => ?_)
    first | refine stA (h := ?_) | refine stEA (h := ?_)
    refine nl (h := ?_)
    refine q_seq (h := ?_)
    refine sq (h := ?_)
    refine sq (h := ?_)
    refine rg (h := ?_)
    refine wy (by first | exact ldA | exact ldEA) ?_
    refine wy mv ?_
    refine wy (by first | exact fa | exact faE) ?_
    refine wy (by first | exact ld | exact ldE) ?_
    refine wy (by first | exact fa | exact faE) ?_
    refine wy (by first | exact ld | exact ldE) ?_
    refine cl0 (hc := fun w hS => C_br_Winner t l d ha hc A c r p hr hp w (hS.get rdz_) (hS.get rdz_)) (h := ?_)
    refine wy mv ?_
    refine wy ex ?_
    refine wy ex ?_
    refine wy asg ?_
    refine WL.cut (by repeat (first | exact Cut.nil | apply Cut.hit | apply Cut.miss (by exact rfl))) ?_
    refine wy asg ?_
    refine WL.cut (by repeat (first | exact Cut.nil | apply Cut.hit | apply Cut.miss (by exact rfl))) ?_
    refine nl (h := ?_)
    refine q_seq (h := ?_)
    refine sq (h := ?_)
    refine rg (h := ?_)
    refine wy mv ?_
    refine wy eql ?_
    refine nl (h := ?_)
    refine q_seq (h := ?_)
    refine cd (by exact rfl) (fun h3 => ?_) (fun h3 => ?_)
    · skip
      have hopF : opB d (boV d r p) = false := by
        have h9 := of_decide_eq_true h3
        unfold winE at h9
        split at h9
        · cases h9
        · next h8 => exact decide_eq_false h8
      rw [if_neg (by rw [hopF]; decide)] at hot
      refine et (h := ?_)
      refine q_then_exit (h := ?_)
      refine q_blk_hit (h := ?_)
      refine q_seq (h := ?_)
      first
        | (have e9 := hopT; refine WC.manyAdd (A := v.A) (cap := v.c) (T := 3) (size := 1) (m := (afTil (opTil t d z.k) (boV d r p) v.i).length) (es := enI (afTil (opTil t d z.k) (boV d r p) v.i)) (rs := z.js.map afR) atz_ atz_ (h := ?_)
           rw [show z.js.map afR ++ [(⟨v.A, 1, (afTil (opTil t d z.k) (boV d r p) v.i).length, enI (afTil (opTil t d z.k) (boV d r p) v.i)⟩ : Row)] = (z.js ++ [(⟨s.len, afTil (opTil t d z.k) (boV d r p) v.i, v.A, v.c, [], none, 0, s.due, 0⟩ : Jb)]).map afR by rw [List.map_append]; rfl])
        | skip
      refine rg (h := ?_)
      refine wy addI ?_
      refine wy mv ?_
      refine nl (h := ?_)
      first
        | (have e9 := hopF; refine rn (x := z) ⟨z.k + 1, z.js, z.A, z.c, z.B, z.m⟩ ⟨hzn, by dsimp only; rw [hot]; exact hzj⟩ (by dsimp only; omega) (by dsimp only; rw [hot]; repeat (first | exact trivial | refine ⟨rfl, ?_⟩)) (by dsimp only; rw [hot]; exact slz_); done)
        | (have e9 := hopT; refine rn (x := z) ⟨z.k + 1, z.js ++ [⟨s.len, afTil (opTil t d z.k) (boV d r p) v.i, v.A, v.c, [], none, 0, s.due, 0⟩], A1, c1, B1, m1⟩ ⟨hzn, by dsimp only; rw [hot, hvn]; exact hzj.add (b := boV d r p) hs _ _⟩ (by dsimp only; omega) sbz_ slz_; done)
    · skip
      have hopT : opB d (boV d r p) = true := by
        have h9 := of_decide_eq_false h3
        unfold winE at h9
        split at h9
        · next h8 => exact decide_eq_true h8
        · exact absurd rfl h9
      rw [if_pos hopT] at hot
      refine skp (h := ?_)
      refine q_seq (h := ?_)
      refine sq (h := ?_)
      refine rgD (by kernel_rfl) [(1000000, .blk b1 50 (boV d r p).cells), (1000000, .ro sA 3 sg.length (encStg sg))] (by repeat (first | exact HS.nil | (apply HS.keep; (repeat (first | exact At.here | apply At.there))) | (apply HS.ro; (repeat (first | exact Rds.ro | exact Rds.own | apply Rds.there))))) (h := ?_)
      refine tk 0 (hy := mv) (h := ?_)
      refine tk 1 (hy := (by first | exact fa | exact faE)) (h := ?_)
      refine tk 2 (hy := (by first | exact ld | exact ldE)) (h := ?_)
      refine tk 3 (hy := ix (A := sA) (m := sg.length) (hb := by dsimp only [boV]; omega)) (h := ?_)
      refine tk 4 (hy := (by first | exact fa | exact faE)) (h := ?_)
      refine tk 5 (hy := ldEA (A := sA) (hk := hse)) (h := ?_)
      refine tk 6 (hy := mv) (h := ?_)
      refine tk 7 (hy := (by first | exact fa | exact faE)) (h := ?_)
      refine tk 8 (hy := (by first | exact ld | exact ldE)) (h := ?_)
      refine tk 9 (hy := ix (A := sA) (m := sg.length) (hb := by dsimp only [boV]; omega)) (h := ?_)
      refine tk 10 (hy := (by first | exact fa | exact faE)) (h := ?_)
      refine tk 11 (hy := ldE (A := sA) (hk := hse)) (h := ?_)
      refine tk 12 (hy := bd) (h := ?_)
      refine one 13 (h := ?_)
      refine al (h := fun b2 => ?_)
      refine nx (h := ?_)
      refine one 14 (h := ?_)
      first | refine stA (h := ?_) | refine stEA (h := ?_)
      refine nx (h := ?_)
      refine dn (h := ?_)
      refine q_seq (h := ?_)
      refine sq (h := ?_)
      refine sq (h := ?_)
      refine WC.nilOwn 3 1 (h := ?_)
      refine rg (h := ?_)
      refine wy mv ?_
      refine wy lenS ?_
      refine wy mv ?_
      refine nl (h := ?_)
      refine q_seq (h := ?_)
      refine bk (h := ?_)
      refine lp (X := AfZ) (I := fun v => v.i ≤ (opTil t d z.k).length) (le := fun v => [(1, .slice A l.length c), (2, .slice sA sg.length sc), (3, .pointer (some ⟨b0, 0, none⟩)), (11, .slice z.A z.js.length z.c), (12, .slice z.B (opTil t d z.k).length z.m), (38, .slice x0.1 (boL t d).length x0.2), (39, .int .i64 (boL t d).length), (40, .int .i64 z.k), (14, .pointer (some ⟨b1, 0, none⟩)), (17, .pointer (some ⟨b2, 0, none⟩)), (69, .slice z.B (opTil t d z.k).length z.m), (70, .int .i64 (opTil t d z.k).length), (71, .int .i64 v.i)]) (Le := fun v => [.own v.A v.c 3 1 (afTil (opTil t d z.k) (boV d r p) v.i).length (enI (afTil (opTil t d z.k) (boV d r p) v.i)), .blk b2 80 [.int .i64 s.len.1, .int .i64 s.len.2, .slice v.A (afTil (opTil t d z.k) (boV d r p) v.i).length v.c, .slice none 0 0, .int .i64 s.due, .int .i64 0], .blk b1 50 (boV d r p).cells, .own z.A z.c 80 6 z.js.length (encJb z.js), .own z.B z.m 50 4 (opTil t d z.k).length (encBo (opTil t d z.k)), manyE true (z.js.map afR), ownBo x0.1 x0.2 (boL t d), .ro sA 3 sg.length (encStg sg), .ro A 5 l.length (encSl l), .ro t.A 1 t.sl.length (enI t.sl), .blk b0 24 t.cells]) (μ := fun v => (opTil t d z.k).length - v.i) ⟨0, none, 0⟩ (Nat.zero_le _) sbz_ slz_ (fun v hv => ?_)
      refine sq (h := ?_)
      refine rg (h := ?_)
      refine wy lss ?_
      refine nl (h := ?_)
      refine q_seq (h := ?_)
      refine sq (h := ?_)
      refine cd (by exact rfl) (fun h4 => ?_) (fun h4 => ?_)
      · skip
        have hvn : v.i < (opTil t d z.k).length := by have := of_decide_eq_true h4; omega
        obtain ⟨b', hb'⟩ : ∃ b', (opTil t d z.k)[v.i]? = some b' := ⟨_, List.getElem?_eq_getElem hvn⟩
        obtain ⟨r', p', hr', hp', rfl⟩ := boTil_mem (k := t.R.toNat) (List.mem_of_mem_take (List.mem_filter.1 (List.mem_of_getElem? hb')).1)
        have hoe' := encBo_at hb'
        have hpl' := szN_le (t := t) (by omega) r'
        have haf0 := afTil_succ (b := boV d r p) hb'
        have hafl := afTil_len (opTil t d z.k) (boV d r p) v.i
        refine skp (h := ?_)
        refine q_seq (h := ?_)
        refine sq (h := ?_)
        refine bk (h := ?_)
        refine sq (h := ?_)
        refine rg (h := ?_)
        refine wy mv ?_
        refine wy (ix (A := z.B) (m := (opTil t d z.k).length) (hb := by omega)) ?_
        refine wy (ldEW (A := z.B) (cs := (boV d r' p').cells) (hk := hoe')) ?_
        refine al (h := fun b3 => ?_)
        refine wy asg ?_
        refine WL.cut (by repeat (first | exact Cut.nil | apply Cut.hit | apply Cut.miss (by exact rfl))) ?_
        first | refine stA (h := ?_) | refine stEA (h := ?_)
        refine nl (h := ?_)
        refine q_seq (h := ?_)
        refine sq (h := ?_)
        refine rg (h := ?_)
        refine wy (by first | exact fa | exact faE) ?_
        refine wy (by first | exact ld | exact ldE) ?_
        refine wy (by first | exact fa | exact faE) ?_
        refine wy (by first | exact ld | exact ldE) ?_
        refine wy (subI (hb := by dsimp only [boV]; omega)) ?_
        refine wy eql ?_
        refine wy mv ?_
        apply brAnd 7 82 89 (by exact rfl)
        · intro hb5
          refine un (h := ?_)
          refine wy (by first | exact fa | exact faE) ?_
          refine un (h := ?_)
          refine wy (by first | exact ld | exact ldE) ?_
          refine un (h := ?_)
          refine wy (quoI (hb := by dsimp only [boV]; omega)) ?_
          refine un (h := ?_)
          refine wy (by first | exact fa | exact faE) ?_
          refine un (h := ?_)
          refine wy (by first | exact ld | exact ldE) ?_
          refine un (h := ?_)
          refine wy eql ?_
          refine wy (by first | exact pkT | exact pkF) ?_
          exact mg (by repeat (first | exact trivial | refine ⟨rfl, ?_⟩ | refine ⟨by rw [hb5]; rfl, ?_⟩)) slz_
        · intro hb5
          repeat (first | refine un (h := ?_) | refine sk (h := ?_) | refine WL.y (hy := pkF) (h := ?_) | refine WL.y (hy := pkT) (h := ?_))
          exact mg (by repeat (first | exact trivial | refine ⟨rfl, ?_⟩ | refine ⟨by rw [hb5]; rfl, ?_⟩)) slz_
        refine nl (h := ?_)
        refine q_seq (h := ?_)
        refine cd (by exact rfl) (fun h6 => ?_) (fun h6 => ?_)
        · skip
          have hbb : befBo (boV d r' p') (boV d r p) = true := h6
          have haf := haf0
          rw [if_pos hbb] at haf
          refine rg (h := ?_)
          refine wy (by first | exact fa | exact faE) ?_
          refine wy (by first | exact ld | exact ldE) ?_
          refine wy mv ?_
          refine bs (h := fun b4 => ?_)
          refine ap (es := enI (afTil (opTil t d z.k) (boV d r p) v.i)) (m := (afTil (opTil t d z.k) (boV d r p) v.i).length) (k := 1) (A := v.A) (c := v.c) (h := fun A2 c2 => ?_)
          rw [show enI (afTil (opTil t d z.k) (boV d r p) v.i) ++ [[Value.int .i64 v.i]] = enI (afTil (opTil t d z.k) (boV d r p) (v.i + 1)) by rw [haf]; exact enI_app _ _, show (afTil (opTil t d z.k) (boV d r p) v.i).length + 1 = (afTil (opTil t d z.k) (boV d r p) (v.i + 1)).length by rw [haf, List.length_append]; rfl]
          refine wy (by first | exact fa | exact faE) ?_
          first | refine st (h := ?_) | refine stE (h := ?_)
          refine nl (h := ?_)
          refine q_blk_norm (h := ?_)
          refine q_seq (h := ?_)
          refine rg (h := ?_)
          refine wy addI ?_
          refine wy mv ?_
          refine nl (h := ?_)
          first
            | (have e9 := haf; refine rn (x := v) ⟨v.i + 1, A2, c2⟩ hvn (by dsimp only; omega) sbz_ slz_; done)
            | (have e9 := hafN; refine rn (x := v) ⟨v.i + 1, v.A, v.c⟩ hvn (by dsimp only; omega) sbz_ (by dsimp only; rw [hafN]; exact slz_); done)
        · skip
          have hbb : befBo (boV d r' p') (boV d r p) = false := h6
          have hafN := haf0
          rw [if_neg (by rw [hbb]; decide)] at hafN
          refine skp (h := ?_)
          refine q_blk_norm (h := ?_)
          refine q_seq (h := ?_)
          refine rg (h := ?_)
          refine wy addI ?_
          refine wy mv ?_
          refine nl (h := ?_)
          first
            | (have e9 := haf; refine rn (x := v) ⟨v.i + 1, A2, c2⟩ hvn (by dsimp only; omega) sbz_ slz_; done)
            | (have e9 := hafN; refine rn (x := v) ⟨v.i + 1, v.A, v.c⟩ hvn (by dsimp only; omega) sbz_ (by dsimp only; rw [hafN]; exact slz_); done)
      · skip
        have hvn : v.i = (opTil t d z.k).length := by have := of_decide_eq_false h4; omega
        refine et (h := ?_)
        refine q_then_exit (h := ?_)
        refine q_then_exit (h := ?_)
        refine q_blk_hit (h := ?_)
        refine q_seq (h := ?_)
        refine rgD (by kernel_rfl) [(1000000, .blk b2 80 [.int .i64 s.len.1, .int .i64 s.len.2, .slice v.A (afTil (opTil t d z.k) (boV d r p) v.i).length v.c, .slice none 0 0, .int .i64 s.due, .int .i64 0]), (1000000, .blk b1 50 (boV d r p).cells)] (by repeat (first | exact HS.nil | (apply HS.keep; (repeat (first | exact At.here | apply At.there))) | (apply HS.ro; (repeat (first | exact Rds.ro | exact Rds.own | apply Rds.there))))) (h := ?_)
        refine tk 0 (hy := mv) (h := ?_)
        refine tk 1 (hy := (by first | exact ldA | exact ldEA)) (h := ?_)
        refine tk 4 (hy := mv) (h := ?_)
        refine tk 5 (hy := (by first | exact ldA | exact ldEA)) (h := ?_)
        refine two 2 6 (h1 := ?_) (h2 := ?_)
        · skip
          refine bs (h := fun b5 => ?_)
          refine nx (h := ?_)
          refine two 3 6 (h1 := ?_) (h2 := ?_)
          · skip
            refine ap (es := encJb z.js) (m := z.js.length) (k := 1) (A := z.A) (c := z.c) (h := fun A1 c1 => ?_)
            rw [show encJb z.js ++ [[Value.int .i64 s.len.1, .int .i64 s.len.2, .slice v.A (afTil (opTil t d z.k) (boV d r p) v.i).length v.c, .slice none 0 0, .int .i64 s.due, .int .i64 0]] = encJb (z.js ++ [⟨s.len, afTil (opTil t d z.k) (boV d r p) v.i, v.A, v.c, [], none, 0, s.due, 0⟩]) by unfold encJb; rw [List.map_append]; rfl, show z.js.length + 1 = (z.js ++ [(⟨s.len, afTil (opTil t d z.k) (boV d r p) v.i, v.A, v.c, [], none, 0, s.due, 0⟩ : Jb)]).length by rw [List.length_append]; rfl]
            refine nx (h := ?_)
            refine one 6 (h := ?_)
            refine bs (h := fun b6 => ?_)
            refine nx (h := ?_)
            refine one 7 (h := ?_)
            refine ap (es := encBo (opTil t d z.k)) (m := (opTil t d z.k).length) (k := 1) (A := z.B) (c := z.m) (h := fun B1 m1 => ?_)
            rw [show encBo (opTil t d z.k) ++ [(boV d r p).cells] = encBo (opTil t d (z.k + 1)) by rw [hot, encBo_snoc], show (opTil t d z.k).length + 1 = (opTil t d (z.k + 1)).length by rw [hot, List.length_append]; rfl]
            refine nx (h := ?_)
            refine tk 8 (hy := asg) (h := ?_)
            refine tk 9 (hy := asg) (h := ?_)
            refine dn (h := ?_)
            refine q_blk_norm (h := ?_)
            refine q_seq (h := ?_)
            first
              | (have e9 := hopT; refine WC.manyAdd (A := v.A) (cap := v.c) (T := 3) (size := 1) (m := (afTil (opTil t d z.k) (boV d r p) v.i).length) (es := enI (afTil (opTil t d z.k) (boV d r p) v.i)) (rs := z.js.map afR) atz_ atz_ (h := ?_)
                 rw [show z.js.map afR ++ [(⟨v.A, 1, (afTil (opTil t d z.k) (boV d r p) v.i).length, enI (afTil (opTil t d z.k) (boV d r p) v.i)⟩ : Row)] = (z.js ++ [(⟨s.len, afTil (opTil t d z.k) (boV d r p) v.i, v.A, v.c, [], none, 0, s.due, 0⟩ : Jb)]).map afR by rw [List.map_append]; rfl])
              | skip
            refine rg (h := ?_)
            refine wy addI ?_
            refine wy mv ?_
            refine nl (h := ?_)
            first
              | (have e9 := hopF; refine rn (x := z) ⟨z.k + 1, z.js, z.A, z.c, z.B, z.m⟩ ⟨hzn, by dsimp only; rw [hot]; exact hzj⟩ (by dsimp only; omega) (by dsimp only; rw [hot]; repeat (first | exact trivial | refine ⟨rfl, ?_⟩)) (by dsimp only; rw [hot]; exact slz_); done)
              | (have e9 := hopT; refine rn (x := z) ⟨z.k + 1, z.js ++ [⟨s.len, afTil (opTil t d z.k) (boV d r p) v.i, v.A, v.c, [], none, 0, s.due, 0⟩], A1, c1, B1, m1⟩ ⟨hzn, by dsimp only; rw [hot, hvn]; exact hzj.add (b := boV d r p) hs _ _⟩ (by dsimp only; omega) sbz_ slz_; done)
          · skip
            refine bs (h := fun b7 => ?_)
            refine nx (h := ?_)
            refine one 3 (h := ?_)
            refine ap (es := encJb z.js) (m := z.js.length) (k := 1) (A := z.A) (c := z.c) (h := fun A1 c1 => ?_)
            rw [show encJb z.js ++ [[Value.int .i64 s.len.1, .int .i64 s.len.2, .slice v.A (afTil (opTil t d z.k) (boV d r p) v.i).length v.c, .slice none 0 0, .int .i64 s.due, .int .i64 0]] = encJb (z.js ++ [⟨s.len, afTil (opTil t d z.k) (boV d r p) v.i, v.A, v.c, [], none, 0, s.due, 0⟩]) by unfold encJb; rw [List.map_append]; rfl, show z.js.length + 1 = (z.js ++ [(⟨s.len, afTil (opTil t d z.k) (boV d r p) v.i, v.A, v.c, [], none, 0, s.due, 0⟩ : Jb)]).length by rw [List.length_append]; rfl]
            refine nx (h := ?_)
            refine one 7 (h := ?_)
            refine ap (es := encBo (opTil t d z.k)) (m := (opTil t d z.k).length) (k := 1) (A := z.B) (c := z.m) (h := fun B1 m1 => ?_)
            rw [show encBo (opTil t d z.k) ++ [(boV d r p).cells] = encBo (opTil t d (z.k + 1)) by rw [hot, encBo_snoc], show (opTil t d z.k).length + 1 = (opTil t d (z.k + 1)).length by rw [hot, List.length_append]; rfl]
            refine nx (h := ?_)
            refine tk 8 (hy := asg) (h := ?_)
            refine tk 9 (hy := asg) (h := ?_)
            refine dn (h := ?_)
            refine q_blk_norm (h := ?_)
            refine q_seq (h := ?_)
            first
              | (have e9 := hopT; refine WC.manyAdd (A := v.A) (cap := v.c) (T := 3) (size := 1) (m := (afTil (opTil t d z.k) (boV d r p) v.i).length) (es := enI (afTil (opTil t d z.k) (boV d r p) v.i)) (rs := z.js.map afR) atz_ atz_ (h := ?_)
                 rw [show z.js.map afR ++ [(⟨v.A, 1, (afTil (opTil t d z.k) (boV d r p) v.i).length, enI (afTil (opTil t d z.k) (boV d r p) v.i)⟩ : Row)] = (z.js ++ [(⟨s.len, afTil (opTil t d z.k) (boV d r p) v.i, v.A, v.c, [], none, 0, s.due, 0⟩ : Jb)]).map afR by rw [List.map_append]; rfl])
              | skip
            refine rg (h := ?_)
            refine wy addI ?_
            refine wy mv ?_
            refine nl (h := ?_)
            first
              | (have e9 := hopF; refine rn (x := z) ⟨z.k + 1, z.js, z.A, z.c, z.B, z.m⟩ ⟨hzn, by dsimp only; rw [hot]; exact hzj⟩ (by dsimp only; omega) (by dsimp only; rw [hot]; repeat (first | exact trivial | refine ⟨rfl, ?_⟩)) (by dsimp only; rw [hot]; exact slz_); done)
              | (have e9 := hopT; refine rn (x := z) ⟨z.k + 1, z.js ++ [⟨s.len, afTil (opTil t d z.k) (boV d r p) v.i, v.A, v.c, [], none, 0, s.due, 0⟩], A1, c1, B1, m1⟩ ⟨hzn, by dsimp only; rw [hot, hvn]; exact hzj.add (b := boV d r p) hs _ _⟩ (by dsimp only; omega) sbz_ slz_; done)
        · skip
          refine bs (h := fun b8 => ?_)
          refine nx (h := ?_)
          refine one 2 (h := ?_)
          refine bs (h := fun b9 => ?_)
          refine nx (h := ?_)
          refine one 3 (h := ?_)
          refine ap (es := encJb z.js) (m := z.js.length) (k := 1) (A := z.A) (c := z.c) (h := fun A1 c1 => ?_)
          rw [show encJb z.js ++ [[Value.int .i64 s.len.1, .int .i64 s.len.2, .slice v.A (afTil (opTil t d z.k) (boV d r p) v.i).length v.c, .slice none 0 0, .int .i64 s.due, .int .i64 0]] = encJb (z.js ++ [⟨s.len, afTil (opTil t d z.k) (boV d r p) v.i, v.A, v.c, [], none, 0, s.due, 0⟩]) by unfold encJb; rw [List.map_append]; rfl, show z.js.length + 1 = (z.js ++ [(⟨s.len, afTil (opTil t d z.k) (boV d r p) v.i, v.A, v.c, [], none, 0, s.due, 0⟩ : Jb)]).length by rw [List.length_append]; rfl]
          refine nx (h := ?_)
          refine one 7 (h := ?_)
          refine ap (es := encBo (opTil t d z.k)) (m := (opTil t d z.k).length) (k := 1) (A := z.B) (c := z.m) (h := fun B1 m1 => ?_)
          rw [show encBo (opTil t d z.k) ++ [(boV d r p).cells] = encBo (opTil t d (z.k + 1)) by rw [hot, encBo_snoc], show (opTil t d z.k).length + 1 = (opTil t d (z.k + 1)).length by rw [hot, List.length_append]; rfl]
          refine nx (h := ?_)
          refine tk 8 (hy := asg) (h := ?_)
          refine tk 9 (hy := asg) (h := ?_)
          refine dn (h := ?_)
          refine q_blk_norm (h := ?_)
          refine q_seq (h := ?_)
          first
            | (have e9 := hopT; refine WC.manyAdd (A := v.A) (cap := v.c) (T := 3) (size := 1) (m := (afTil (opTil t d z.k) (boV d r p) v.i).length) (es := enI (afTil (opTil t d z.k) (boV d r p) v.i)) (rs := z.js.map afR) atz_ atz_ (h := ?_)
               rw [show z.js.map afR ++ [(⟨v.A, 1, (afTil (opTil t d z.k) (boV d r p) v.i).length, enI (afTil (opTil t d z.k) (boV d r p) v.i)⟩ : Row)] = (z.js ++ [(⟨s.len, afTil (opTil t d z.k) (boV d r p) v.i, v.A, v.c, [], none, 0, s.due, 0⟩ : Jb)]).map afR by rw [List.map_append]; rfl])
            | skip
          refine rg (h := ?_)
          refine wy addI ?_
          refine wy mv ?_
          refine nl (h := ?_)
          first
            | (have e9 := hopF; refine rn (x := z) ⟨z.k + 1, z.js, z.A, z.c, z.B, z.m⟩ ⟨hzn, by dsimp only; rw [hot]; exact hzj⟩ (by dsimp only; omega) (by dsimp only; rw [hot]; repeat (first | exact trivial | refine ⟨rfl, ?_⟩)) (by dsimp only; rw [hot]; exact slz_); done)
            | (have e9 := hopT; refine rn (x := z) ⟨z.k + 1, z.js ++ [⟨s.len, afTil (opTil t d z.k) (boV d r p) v.i, v.A, v.c, [], none, 0, s.due, 0⟩], A1, c1, B1, m1⟩ ⟨hzn, by dsimp only; rw [hot, hvn]; exact hzj.add (b := boV d r p) hs _ _⟩ (by dsimp only; omega) sbz_ slz_; done)
  · skip
    have hzn : z.k = (boL t d).length := by have := of_decide_eq_false h2; omega
    have hfin : opTil t d z.k = openL t d := by unfold opTil openL; rw [hzn, List.take_length]
    rw [hfin] at hzj
    refine et (h := ?_)
    refine q_then_exit (h := ?_)
    refine q_then_exit (h := ?_)
    refine q_blk_hit (h := ?_)
    refine q_seq (h := ?_)
    refine sq (h := ?_)
    refine sq (h := ?_)
    refine rg (h := ?_)
    refine wy mv ?_
    refine wy lenS ?_
    refine wy gtr ?_
    refine nl (h := ?_)
    refine q_seq (h := ?_)
    refine cd (by exact rfl) (fun h7 => ?_) (fun h7 => ?_)
    · skip
      exfalso
      have h9 := of_decide_eq_true h7
      have h8 := hzj.n
      omega
    · skip
      refine skp (h := ?_)
      refine q_seq (h := ?_)
      refine sq (h := ?_)
      refine rg (h := ?_)
      refine wy mv ?_
      refine wy mv ?_
      refine wy asg ?_
      refine wy asg ?_
      refine wy asg ?_
      refine nl (h := ?_)
      refine q_seq (h := ?_)
      refine rtn (h := ?_)
      refine q_ret (hR := ?_)
      exact fun w hS => ⟨⟨z.js, z.A, z.c, z.B, z.m⟩, hzj, by rw [hfin]; rfl, by rw [hfin] at hS; exact hS.sub slz_⟩
end Go.Proofs.YtmlhnajgiopfgaaGreat

namespace Go.Proofs.YtmlhnajgiopfgaaGreat
open Go Go.RowKit

theorem nextD_num {p : Pg} {d : DS} {s : Se} : (nextD p d s).num = s.day := day_num p d s.day
structure PreI (p : Pg) (d : DS) (dn : Nat → Bool) (pre : List Se) : Prop where
  dd : ∀ k, dn k = true → ∃ t ∈ pre, t.job = (k : Nat)
  job : ∀ t ∈ pre, 0 ≤ t.job ∧ dn t.job.toNat = true
  day : ∀ t ∈ pre, t.day ≤ d.num
  num : 0 ≤ d.num
theorem PreI.next {p : Pg} {days : Int} {d : DS} {dn : Nat → Bool} {pre : List Se} (h : PreI p d dn pre) {s : Se} (hs : StepP p days d dn s) : PreI p (nextD p d s) (upB dn s.job.toNat) (pre ++ [s]) := by
  have hj := hs.job
  have hd := hs.day
  refine ⟨fun k hk => ?_, fun t ht => ?_, fun t ht => ?_, by rw [nextD_num]; have := h.num; omega⟩
  · unfold upB at hk
    by_cases e : k = s.job.toNat
    · exact ⟨s, List.mem_append_right _ (by simp), by omega⟩
    · rw [if_neg e] at hk
      obtain ⟨t, h1, h2⟩ := h.dd k hk
      exact ⟨t, List.mem_append_left _ h1, h2⟩
  · rcases List.mem_append.1 ht with ht | ht
    · obtain ⟨h1, h2⟩ := h.job t ht
      refine ⟨h1, ?_⟩
      unfold upB
      split
      · rfl
      · exact h2
    · rw [List.mem_singleton] at ht
      subst ht
      exact ⟨hj.1, by unfold upB; rw [if_pos rfl]⟩
  · rw [nextD_num]
    rcases List.mem_append.1 ht with ht | ht
    · have := h.day t ht; omega
    · rw [List.mem_singleton] at ht; subst ht; exact Int.le_refl _
theorem may_of {p : Pg} (hp : POk p) {days : Int} (hdays : days ≤ p.days.length) {d : DS} {dn : Nat → Bool} {pre : List Se} (h : PreI p d dn pre) {s : Se} (hs : StepP p days d dn s) : MayC p pre s := by
  have hj := hs.job
  have hd := hs.day
  have hn := h.num
  refine ⟨hj, fun t ht e => ?_, by omega, hs.due, hs.court, fun t ht => by have := h.day t ht; omega, fun j hj2 x hx => ?_⟩
  · have := (h.job t ht).2
    rw [e, hs.new] at this; cases this
  · obtain ⟨t, h1, h2⟩ := h.dd x.toNat (hs.af j hj2 x hx)
    obtain ⟨i, hi⟩ := List.getElem?_of_mem hx
    have := (hp.jb s.job.toNat j (by omega) hj2).af i x (List.getElem?_eq_some_iff.1 hi).1 hi
    exact ⟨t, h1, by omega⟩
theorem pth_may {p : Pg} (hp : POk p) {days : Int} (hdays : days ≤ p.days.length) : ∀ (o : List Se) (d : DS) (dn : Nat → Bool) (pre : List Se), PreI p d dn pre → Pth p days d dn o → ∀ k s, o[k]? = some s → MayC p (pre ++ o.take k) s
  | [], _, _, _, _, _, k, s, h => by cases h
  | x :: o, d, dn, pre, h, hP, 0, s, hs => by
    cases hs
    rw [List.take_zero, List.append_nil]
    exact may_of hp hdays h hP.1
  | x :: o, d, dn, pre, h, hP, k + 1, s, hs => by
    have := pth_may hp hdays o _ _ (pre ++ [x]) (h.next hP.1) hP.2 k s hs
    rwa [List.append_assoc] at this
theorem pth_nodup {p : Pg} {days : Int} : ∀ (o : List Se) (d : DS) (dn : Nat → Bool), Pth p days d dn o → (o.map fun s => s.job.toNat).Nodup ∧ (∀ s ∈ o, s.job.toNat < p.jobs.length ∧ dn s.job.toNat = false) ∧ ∀ k, k < p.jobs.length → dn k = false → ∃ s ∈ o, s.job.toNat = k
  | [], d, dn, hP => ⟨List.nodup_nil, fun s hs => (by cases hs), fun k hk h => by rw [hP k hk] at h; cases h⟩
  | x :: o, d, dn, hP => by
    obtain ⟨h1, h2, h3⟩ := pth_nodup o _ _ hP.2
    have hj := hP.1.job
    refine ⟨?_, fun s hs => ?_, fun k hk hd => ?_⟩
    · rw [List.map_cons, List.nodup_cons]
      refine ⟨fun hm => ?_, h1⟩
      obtain ⟨s, hs, e⟩ := List.mem_map.1 hm
      have := (h2 s hs).2
      rw [e] at this
      unfold upB at this
      rw [if_pos rfl] at this; cases this
    · rcases List.mem_cons.1 hs with rfl | hs
      · exact ⟨by omega, hP.1.new⟩
      · obtain ⟨h4, h5⟩ := h2 s hs
        refine ⟨h4, ?_⟩
        unfold upB at h5
        split at h5
        · cases h5
        · exact h5
    · by_cases e : k = x.job.toNat
      · exact ⟨x, List.mem_cons_self, e.symm⟩
      · obtain ⟨s, hs, h4⟩ := h3 k hk (by unfold upB; rw [if_neg e]; exact hd)
        exact ⟨s, List.mem_cons_of_mem _ hs, h4⟩
theorem way_order {p : Pg} (hp : POk p) {days : Int} (hdays : days ≤ p.days.length) {o : List Se} (hP : Pth p days (openD p 0) (fun _ => false) o) : OOk p o := by
  have h0 : PreI p (openD p 0) (fun _ => false) [] := ⟨fun k h => (by cases h), fun t h => (by cases h), fun t h => (by cases h), by show (0 : Int) ≤ 0; omega⟩
  refine ⟨?_, fun k s hk hs => ?_⟩
  · obtain ⟨h1, h2, h3⟩ := pth_nodup o _ _ hP
    have hperm : (o.map fun s => s.job.toNat).Perm (List.range p.jobs.length) := by
      refine (List.perm_ext_iff_of_nodup h1 List.nodup_range).2 fun k => ?_
      rw [List.mem_range]
      constructor
      · intro hk
        obtain ⟨s, hs, rfl⟩ := List.mem_map.1 hk
        exact (h2 s hs).1
      · intro hk
        obtain ⟨s, hs, e⟩ := h3 k hk rfl
        exact List.mem_map.2 ⟨s, hs, e⟩
    have := hperm.length_eq
    rwa [List.length_map, List.length_range] at this
  · have := pth_may hp hdays o _ _ [] h0 hP k s hs
    rwa [List.nil_append] at this
theorem step_d {p : Pg} {t : TS} {s : Se} : (stepT p hiG t s).d = nextD p t.d s := by
  unfold stepT nextD dayAt
  by_cases e : s.day = t.d.num
  · rw [decide_eq_true e, if_pos e]; rfl
  · rw [decide_eq_false e, if_neg e]; rfl
theorem step_es {p : Pg} {t : TS} {s : Se} : (stepT p hiG t s).es = t.es.set s.job.toNat (begV p (dayAt p t.d s.day) s + hiL p s.job) := by
  unfold stepT dayAt
  by_cases e : s.day = t.d.num
  · rw [decide_eq_true e, if_pos e]; rfl
  · rw [decide_eq_false e, if_neg e]; rfl
theorem pth_keep {p : Pg} {days : Int} : ∀ (o : List Se) (t : TS) (dn : Nat → Bool), Pth p days t.d dn o → ∀ k, dn k = true → (o.foldl (stepT p hiG) t).es.getD k 0 = t.es.getD k 0
  | [], _, _, _, _, _ => rfl
  | s :: o, t, dn, hP, k, hk => by
    rw [List.foldl_cons, pth_keep o (stepT p hiG t s) (upB dn s.job.toNat) (by rw [step_d]; exact hP.2) k (by unfold upB; split; rfl; exact hk), step_es]
    have hne : s.job.toNat ≠ k := fun e => by have := hP.1.new; rw [e, hk] at this; cases this
    rw [List.getD_eq_getElem?_getD, List.getD_eq_getElem?_getD, List.getElem?_set_ne hne]
theorem pth_fits {p : Pg} {days : Int} : ∀ (o : List Se) (t : TS) (dn : Nat → Bool), t.es.length = p.jobs.length → Pth p days t.d dn o → ∀ s ∈ o, (o.foldl (stepT p hiG) t).es.getD s.job.toNat 0 ≤ closeV p s
  | [], _, _, _, _, s, hs => by cases hs
  | x :: o, t, dn, hl, hP, s, hs => by
    have hl2 : (stepT p hiG t x).es.length = p.jobs.length := by rw [step_es, List.length_set]; exact hl
    have hP2 : Pth p days (stepT p hiG t x).d (upB dn x.job.toNat) o := by rw [step_d]; exact hP.2
    rw [List.foldl_cons]
    rcases List.mem_cons.1 hs with rfl | hs
    · have hj := hP.1.job
      rw [pth_keep o _ _ hP2 s.job.toNat (by unfold upB; rw [if_pos rfl]), step_es, List.getD_eq_getElem?_getD, List.getElem?_set_self (by omega)]
      exact hP.1.fit
    · exact pth_fits o _ _ hl2 hP2 s hs
theorem way_fits {p : Pg} {days : Int} {o : List Se} (hP : Pth p days (openD p 0) (fun _ => false) o) : FitI p o := fun i s d c hi hd hc => by
  have := pth_fits o ⟨openD p 0, List.replicate p.jobs.length 0, List.replicate p.jobs.length 0⟩ _ (by rw [List.length_replicate]) hP s (List.mem_of_getElem? hi)
  unfold closeV at this
  rw [hd] at this
  dsimp only at this
  rw [hc] at this
  exact this

theorem mem_afTil {ob : List Bo} {b : Bo} {n x : Nat} : ((x : Nat) : Int) ∈ afTil ob b n ↔ x < n ∧ befBo (ob.getD x bo0) b = true := by
  unfold afTil
  rw [List.mem_map]
  constructor
  · rintro ⟨i, hi, e⟩
    obtain ⟨h1, h2⟩ := List.mem_filter.1 hi
    have : i = x := by omega
    subst this
    exact ⟨List.mem_range.1 h1, h2⟩
  · rintro ⟨h1, h2⟩
    exact ⟨x, List.mem_filter.2 ⟨List.mem_range.2 h1, h2⟩, rfl⟩
theorem afTil_nat {ob : List Bo} {b : Bo} {n : Nat} {y : Int} (h : y ∈ afTil ob b n) : ∃ x : Nat, y = x := by
  unfold afTil at h
  obtain ⟨i, -, rfl⟩ := List.mem_map.1 h
  exact ⟨i, rfl⟩
theorem afTil_asc (ob : List Bo) (b : Bo) (n : Nat) : Asc (afTil ob b n) (n : Int) (afTil ob b n).length := by
  have hpw : (afTil ob b n).Pairwise (· < ·) := by
    unfold afTil
    rw [List.pairwise_map]
    exact (List.pairwise_lt_range.filter _).imp fun h => by exact_mod_cast h
  intro i x hi hx
  have hm := List.mem_of_getElem? hx
  obtain ⟨k, rfl⟩ := afTil_nat hm
  have := (mem_afTil.1 hm).1
  refine ⟨by omega, by omega, fun y h0 hy => ?_⟩
  obtain ⟨h1, h2⟩ := List.getElem?_eq_some_iff.1 hx
  obtain ⟨h3, h4⟩ := List.getElem?_eq_some_iff.1 hy
  have := List.pairwise_iff_getElem.1 hpw (i - 1) i h3 h1 (by omega)
  rwa [h2, h4] at this
def befP (x y : RP) : Bool := decide ((x.1 : Int) = (y.1 : Int) - 1) && decide ((x.2 : Int) / 2 = (y.2 : Int))
theorem befBo_pos (d : Dr) (d' : Dr) (x y : RP) : befBo (boV d x.1 x.2) (boV d' y.1 y.2) = befP x y := rfl
theorem open_get {t : Tre} {d : Dr} {k : Nat} {x : RP} (h : (openP t d)[k]? = some x) : (openL t d)[k]? = some (boV d x.1 x.2) := by rw [open_pos, List.getElem?_map, h]; rfl
theorem open_getD {t : Tre} {d : Dr} {k : Nat} {x : RP} (h : (openP t d)[k]? = some x) : (openL t d).getD k bo0 = boV d x.1 x.2 := by rw [List.getD_eq_getElem?_getD, open_get h]; rfl
theorem open_len (t : Tre) (d : Dr) : (openL t d).length = (openP t d).length := by rw [open_pos, List.length_map]
theorem JbS.at_ {t : Tre} {d : Dr} {sg : List Stg} {js : List Jb} (h : JbS (openL t d) sg js) {k : Nat} {j : Jb} (hk : js[k]? = some j) : ∃ x s, (openP t d)[k]? = some x ∧ sg[x.1]? = some s ∧ (j.len = s.len ∧ j.due = s.due ∧ j.ear = 0) ∧ j.wi = [] ∧ j.wA = none ∧ j.wc = 0 ∧ (∀ y ∈ j.af, ∃ i : Nat, y = i) ∧ (∀ i : Nat, ((i : Nat) : Int) ∈ j.af ↔ i < k ∧ ∃ z, (openP t d)[i]? = some z ∧ befP z x = true) ∧ Asc j.af (k : Int) j.af.length := by
  obtain ⟨b, s, h1, h2, h3, h4, h5, h6, h7⟩ := h.a k j hk
  have hkl := (List.getElem?_eq_some_iff.1 h1).1
  rw [open_len] at hkl
  obtain ⟨x, hx⟩ : ∃ x, (openP t d)[k]? = some x := ⟨_, List.getElem?_eq_getElem hkl⟩
  rw [open_get hx] at h1
  obtain rfl := Option.some.inj h1
  refine ⟨x, s, hx, by rwa [show (boV d x.1 x.2).r.toNat = x.1 from Int.toNat_natCast x.1] at h2, h3, h5, h6, h7, fun y hy => by rw [h4] at hy; exact afTil_nat hy, fun i => ?_, by rw [h4]; exact afTil_asc _ _ _⟩
  rw [h4, mem_afTil]
  constructor
  · rintro ⟨h8, h9⟩
    obtain ⟨z, hz⟩ : ∃ z, (openP t d)[i]? = some z := ⟨_, List.getElem?_eq_getElem (by omega)⟩
    rw [open_getD hz, befBo_pos] at h9
    exact ⟨h8, z, hz, h9⟩
  · rintro ⟨h8, z, hz, h9⟩
    exact ⟨h8, by rw [open_getD hz, befBo_pos]; exact h9⟩
theorem jobs_ok {t : Tre} {d : Dr} {sg : List Stg} {js : List Jb} (h : JbS (openL t d) sg js) (hs : StO t sg) {k : Nat} {j : Jb} (hk : js[k]? = some j) : JOk js.length k j := by
  obtain ⟨x, s, h1, h2, ⟨h3, h4, h5⟩, h6, -, -, -, -, h7⟩ := h.at_ hk
  have hv := hs.s s (List.mem_of_getElem? h2)
  refine ⟨by rw [h3]; exact hv.1, by rw [h4]; exact hv.2, by rw [h5]; omega, h7, by rw [h6]; exact fun i x hi => (by cases hi), by rw [h6]; exact fun x hx => (by cases hx)⟩
theorem prog_ok {p : Pg} (hp : POk { p with jobs := [] }) {t : Tre} {d : Dr} {sg : List Stg} (h : JbS (openL t d) sg p.jobs) (hs : StO t sg) (h6 : (openL t d).length ≤ 6) : POk p :=
  ⟨hp.nd, hp.rest, by rw [h.n]; exact h6, hp.nc, hp.dy, fun i j hi hj => jobs_ok h hs hj⟩
theorem jobs_rdc {p q : Pg} {t : Tre} {d : Dr} {sg : List Stg} {r c own : Nat} {v : Int} (hd : q.days = p.days) (hr : q.rest = p.rest) (hp : JbS (openL t d) sg p.jobs) (hq : JbS (openL t ⟨d.sl, upM d.M r c v⟩) sg q.jobs) (ho : (openP t d)[own]? = some (r, c)) (hv : v ≠ -2) : Rdc p q own := by
  have he := openP_more ho hv
  have hol := (List.getElem?_eq_some_iff.1 ho).1
  have hpn := hp.n
  have hqn := hq.n
  rw [open_len] at hpn hqn
  rw [he, List.length_eraseIdx_of_lt hol] at hqn
  have hget : ∀ k : Nat, k ≠ own → (openP t ⟨d.sl, upM d.M r c v⟩)[rhoN own k]? = (openP t d)[k]? := fun k hk => by
    rw [he, List.getElem?_eraseIdx]
    unfold rhoN
    by_cases e : k < own
    · rw [if_pos e, if_pos e]
    · rw [if_neg e, if_neg (by omega), show k - 1 + 1 = k by omega]
  have hlt : ∀ i k : Nat, i ≠ own → k ≠ own → (rhoN own i < rhoN own k ↔ i < k) := fun i k hi hk => by
    unfold rhoN
    split <;> split <;> omega
  refine ⟨hd, hr, by omega, by omega, fun k j hk hj => ?_⟩
  obtain ⟨x, s, h1, h2, h3, h4, -, -, h5, h6, -⟩ := hp.at_ hj
  have hkl := (List.getElem?_eq_some_iff.1 hj).1
  obtain ⟨j', hj'⟩ : ∃ j', q.jobs[rhoN own k]? = some j' := ⟨_, List.getElem?_eq_getElem (by unfold rhoN; split <;> omega)⟩
  obtain ⟨x', s', k1, k2, k3, k4, -, -, k5, k6, -⟩ := hq.at_ hj'
  rw [hget k hk, h1] at k1
  obtain rfl := Option.some.inj k1
  rw [h2] at k2
  obtain rfl := Option.some.inj k2
  have hiff : ∀ i : Nat, i ≠ own → (((rhoN own i : Nat) : Int) ∈ j'.af ↔ ((i : Nat) : Int) ∈ j.af) := fun i hi => by
    rw [h6, k6, hget i hi, hlt i k hi hk]
  refine ⟨j', hj', ⟨by rw [k3.1, h3.1], by rw [k3.2.1, h3.2.1], by rw [k3.2.2, h3.2.2]⟩, hiff, fun y hy => ?_, k4, h4⟩
  obtain ⟨i, rfl⟩ := k5 y hy
  refine ⟨sigN own i, sig_ne own i, ?_, by rw [rho_sig]⟩
  rw [← hiff _ (sig_ne own i), rho_sig]; exact hy
theorem first_known {t : Tre} {l : List Sl} {d : Dr} (ha : Agr t l d) {sg : List Stg} {js : List Jb} (h : JbS (openL t d) sg js) {own : Nat} {j : Jb} {r c : Nat} (hj : js[own]? = some j) (ho : (openP t d)[own]? = some (r, c)) (h0 : j.af = []) : ∀ σ, σ < 2 → 0 ≤ ofV d r c σ := by
  obtain ⟨x, s, h1, h2, -, -, -, -, -, h6, -⟩ := h.at_ hj
  rw [ho] at h1
  obtain rfl := Option.some.inj h1
  obtain ⟨hr, hc, hM⟩ := openP_mem.1 (List.mem_of_getElem? ho)
  dsimp only at hr hc hM
  obtain ⟨hO, -⟩ := ha.o
  have hz := sz_zero ha.tr
  have hPn := hO.p.n
  intro σ hσ
  unfold ofV
  by_cases e : r = 0
  · rw [if_pos e]
    subst e
    have hlt : 2 * c + σ < d.sl.length := by omega
    have hrg := hO.p.rng _ hlt
    have hne : d.sl.getD (2 * c + σ) 0 ≠ -1 := fun e2 => by
      have htl := twin_lt hlt hO.p.ev
      have hc2 : Cov d.sl l 0 c (twin (2 * c + σ)) := ⟨htl, by
        unfold twin; show c = (if (2 * c + σ) % 2 = 0 then 2 * c + σ + 1 else 2 * c + σ - 1) / 2
        split <;> omega, .inl ⟨rfl, by rw [twin_twin]; exact e2⟩⟩
      have := hO.i.b _ _ _ hc2
      have := hO.p.rng _ htl
      omega
    omega
  · rw [if_neg e]
    by_cases hM2 : d.M (r - 1) (2 * c + σ) = -2
    · exfalso
      have hhalf := sz_half (t := t) (r := r) (by omega) hr
      have hm : (r - 1, 2 * c + σ) ∈ openP t d := openP_mem.2 ⟨by dsimp only; omega, by dsimp only; omega, hM2⟩
      obtain ⟨i, hi⟩ := List.getElem?_of_mem hm
      have hil := openP_lt hi ho (.inl (by dsimp only; omega))
      have := (h6 i).2 ⟨hil, _, hi, by
        unfold befP
        rw [decide_eq_true (by dsimp only; omega), decide_eq_true (by dsimp only; omega)]; rfl⟩
      rw [h0] at this; cases this
    · obtain ⟨s, -, -, h3, -⟩ := hO.clo hM2
      exact h3
end Go.Proofs.YtmlhnajgiopfgaaGreat

namespace Go.Proofs.YtmlhnajgiopfgaaGreat
open Go Go.RowKit

theorem HlR.old {w0 w : World} {L : List Ent} {h : Hl} (H : HlR w0 h) (hS : St w0 w L) : HlR w h :=
  ⟨(hS.old H.d).get, fun d hd => (hS.old (H.s d hd)).get, (hS.old H.g).get, H.dn, H.sn, H.gn⟩
theorem progR {w0 w : World} {L : List Ent} (hS : St w0 w L) {h : Hl} (H : HlR w0 h) {t : Tre} {d : Dr} {js : List Jb} (hj : JbS (openL t d) h.sg js) (h6 : (openL t d).length ≤ 6) {A : Option Addr} {c : Nat} (h1 : Rd w A 6 js.length (encJb js)) (h2 : ∀ r ∈ js.map afR, Rd w r.A r.size r.n r.es) : PgR w (h.pg A c js) := by
  have H2 := H.old hS
  have hn := hj.n
  have hb : ∀ x ∈ js, x.af.length ≤ 9223372036854775807 ∧ x.wi = [] := fun x hx => by
    obtain ⟨k, hk⟩ := List.getElem?_of_mem hx
    obtain ⟨b, s, g1, g2, g3, g4, g5, -⟩ := hj.a k x hk
    have := afTil_len (openL t d) b k
    have hkl := (List.getElem?_eq_some_iff.1 hk).1
    rw [← g4] at this
    exact ⟨by omega, g5⟩
  refine ⟨H2.d, h1, H2.s, fun x hx => h2 (afR x) (List.mem_map.2 ⟨x, hx, rfl⟩), fun x hx => ?_, H.dn, by dsimp only; omega, H.sn, fun x hx => (hb x hx).1, fun x hx => by rw [(hb x hx).2]; exact Nat.zero_le _⟩
  rw [(hb x hx).2]
  exact Rd.nil w _ 1
theorem pg_ok {h : Hl} (hp : POk (h.pg none 0 [])) (A : Option Addr) (c : Nat) : POk (h.pg A c []) := ⟨hp.nd, hp.rest, hp.nj, hp.nc, hp.dy, hp.jb⟩
theorem jobs_wi {t : Tre} {d : Dr} {sg : List Stg} {js : List Jb} (hj : JbS (openL t d) sg js) : ∀ j ∈ js, j.wi = [] := fun x hx => by
  obtain ⟨k, hk⟩ := List.getElem?_of_mem hx
  obtain ⟨b, s, -, -, -, -, g5, -⟩ := hj.a k x hk
  exact g5
theorem way_pos {p : Pg} {m : Nat} {o : List Se} (h : WayO p m o) (hj : 0 < p.jobs.length) : m ≠ 0 ∧ Pth p m (openD p 0) (fun _ => false) o ∧ ∃ s o', o = s :: o' := by
  unfold WayO at h
  split at h
  · omega
  · next hm =>
    refine ⟨hm, h, ?_⟩
    cases o with
    | nil => have := h 0 hj; cases this
    | cons s o' => exact ⟨s, o', rfl⟩
theorem days_none {p : Pg} {q : Option Nat} (h : ∀ m, q = some m → LeastW p m) (hn : ∀ k, k ≤ p.days.length → NoWay p k) : q = none := by
  cases q with
  | none => rfl
  | some m =>
    obtain ⟨o, ho⟩ := (h m rfl).is
    exact absurd ho (hn m (h m rfl).le o)
theorem days_some {p : Pg} {q : Option Nat} (h : ∀ m, q = some m → LeastW p m) (h' : q = none → ∀ k, k ≤ p.days.length → NoWay p k) {m : Nat} {o : List Se} (hm : m ≤ p.days.length) (ho : WayO p m o) : ∃ k, q = some k ∧ LeastW p k ∧ k ≤ m := by
  cases q with
  | none => exact absurd ho (h' rfl m hm o)
  | some k =>
    have hk := h k rfl
    refine ⟨k, rfl, hk, Nat.le_of_not_lt fun h9 => ?_⟩
    exact hk.no m h9 o ho
structure FoZ where
  (k : Nat) (b : Bool)
structure ReZ where
  (j : Nat) (A : Option Addr) (c : Nat)
theorem ren_gt {own : Nat} {s : Se} (h : (own : Int) < s.job) : (ren own s).cells = [.int .i64 (s.job - 1), .int .i64 s.day, .int .i64 s.court] := by
  show [Value.int .i64 (rho own s.job), .int .i64 s.day, .int .i64 s.court] = _
  unfold rho
  rw [if_neg (by omega)]
theorem ren_lt {own : Nat} {s : Se} (h : s.job < (own : Int)) : (ren own s).cells = s.cells := by
  show [Value.int .i64 (rho own s.job), .int .i64 s.day, .int .i64 s.court] = _
  unfold rho
  rw [if_pos h]
theorem encSe_snoc (l : List Se) (s : Se) : encSe l ++ [s.cells] = encSe (l ++ [s]) := by unfold encSe; rw [List.map_append]; rfl
theorem ren_take {own : Nat} {o : List Se} {j : Nat} {s : Se} (h : o[j]? = some s) : (o.take (j + 1)).map (ren own) = (o.take j).map (ren own) ++ [ren own s] := by
  rw [List.take_add_one, h, Option.toList_some, List.map_append]; rfl
set_option maxRecDepth 100000 in
set_option maxHeartbeats 8000000 in
theorem K_TopGoesOn (t : Tre) (l : List Sl) (A : Option Addr) (c : Nat) (x : Hx) (w : World) (ht : Rd w t.A 1 t.sl.length (enI t.sl)) (hc : t.sl.length ≤ t.c) (htc : t.c ≤ 9223372036854775807) (hL : Rd w A 5 l.length (encSl l)) (hln : l.length ≤ 9223372036854775807) (H : HlR w x.h) :
    C0 Tryz.prog 3 [t.val, .slice A l.length c, x.val] w (.bool true) := by
  have hgn := H.gn
  refine ⟨en Tryz.func3 Tryz.ntmps3 ((((St.init w).share (e := .ro t.A 1 t.sl.length (enI t.sl)) ht rfl rfl rfl).share (e := .ro A 5 l.length (encSl l)) hL rfl rfl rfl).share (e := .ro x.h.gA 3 x.h.sg.length (encStg x.h.sg)) H.g rfl rfl rfl) (h := fun F => ?_)⟩
  refine sq (h := ?_)
  refine rg (h := ?_)
  refine bxA (h := fun b0 => ?_)
  refine bxA (h := fun b1 => ?_)
  refine wy asg ?_
  refine WL.cut (by repeat (first | exact Cut.nil | apply Cut.hit | apply Cut.miss (by exact rfl))) ?_
  refine nl (h := ?_)
  refine q_seq (h := ?_)
  refine sq (h := ?_)
  refine rg (h := ?_)
  refine wy (by first | exact fa | exact faE) ?_
  refine wy (by first | exact ldA | exact ldEA) ?_
  refine al (h := fun b2 => ?_)
  first | refine stA (h := ?_) | refine stEA (h := ?_)
  refine nl (h := ?_)
  refine q_seq (h := ?_)
  refine sq (h := ?_)
  refine sq (h := ?_)
  refine rg (h := ?_)
  refine wy (by first | exact fa | exact faE) ?_
  refine wy (by first | exact ld | exact ldE) ?_
  refine wy lenS ?_
  refine wy gtr ?_
  refine wy mv ?_
  apply brOr 4 45 49 (by exact rfl)
  · intro hb0
    refine un (h := ?_)
    refine wy mv ?_
    refine un (h := ?_)
    refine wy lenS ?_
    refine un (h := ?_)
    refine wy gtr ?_
    refine wy (by first | exact pkT | exact pkF) ?_
    exact mg (by repeat (first | exact trivial | refine ⟨rfl, ?_⟩ | refine ⟨by rw [hb0]; rfl, ?_⟩)) slz_
  · intro hb0
    repeat (first | refine un (h := ?_) | refine sk (h := ?_) | refine WL.y (hy := pkF) (h := ?_) | refine WL.y (hy := pkT) (h := ?_))
    exact mg (by repeat (first | exact trivial | refine ⟨rfl, ?_⟩ | refine ⟨by rw [hb0]; rfl, ?_⟩)) slz_
  refine wy mv ?_
  apply brOr 4 50 54 (by exact rfl)
  · intro hb1
    refine un (h := ?_)
    refine wy (by first | exact ldA | exact ldEA) ?_
    refine un (h := ?_)
    refine cl0 (hc := fun w hS => C_top_small x.h w (H.old hS)) (h := ?_)
    refine un (h := ?_)
    refine wy notB ?_
    refine wy (by first | exact pkT | exact pkF) ?_
    exact mg (by repeat (first | exact trivial | refine ⟨rfl, ?_⟩ | refine ⟨by rw [hb1]; rfl, ?_⟩)) slz_
  · intro hb1
    repeat (first | refine un (h := ?_) | refine sk (h := ?_) | refine WL.y (hy := pkF) (h := ?_) | refine WL.y (hy := pkT) (h := ?_))
    exact mg (by repeat (first | exact trivial | refine ⟨rfl, ?_⟩ | refine ⟨by rw [hb1]; rfl, ?_⟩)) slz_
  refine wy mv ?_
  apply brOr 4 55 59 (by exact rfl)
  · intro hb2
    refine un (h := ?_)
    refine wy (by first | exact fa | exact faE) ?_
    refine un (h := ?_)
    refine wy (by first | exact ld | exact ldE) ?_
    refine un (h := ?_)
    refine wy lss ?_
    refine wy (by first | exact pkT | exact pkF) ?_
    exact mg (by repeat (first | exact trivial | refine ⟨rfl, ?_⟩ | refine ⟨by rw [hb2]; rfl, ?_⟩)) slz_
  · intro hb2
    repeat (first | refine un (h := ?_) | refine sk (h := ?_) | refine WL.y (hy := pkF) (h := ?_) | refine WL.y (hy := pkT) (h := ?_))
    exact mg (by repeat (first | exact trivial | refine ⟨rfl, ?_⟩ | refine ⟨by rw [hb2]; rfl, ?_⟩)) slz_
  refine wy mv ?_
  apply brOr 4 60 64 (by exact rfl)
  · intro hb3
    refine un (h := ?_)
    refine wy (by first | exact fa | exact faE) ?_
    refine un (h := ?_)
    refine wy (by first | exact ld | exact ldE) ?_
    refine un (h := ?_)
    refine wy gtr ?_
    refine wy (by first | exact pkT | exact pkF) ?_
    exact mg (by repeat (first | exact trivial | refine ⟨rfl, ?_⟩ | refine ⟨by rw [hb3]; rfl, ?_⟩)) slz_
  · intro hb3
    repeat (first | refine un (h := ?_) | refine sk (h := ?_) | refine WL.y (hy := pkF) (h := ?_) | refine WL.y (hy := pkT) (h := ?_))
    exact mg (by repeat (first | exact trivial | refine ⟨rfl, ?_⟩ | refine ⟨by rw [hb3]; rfl, ?_⟩)) slz_
  refine nl (h := ?_)
  refine q_seq (h := ?_)
  refine cd (by exact rfl) (fun h4 => ?_) (fun h4 => ?_)
  · skip
    refine sq (h := ?_)
    refine rg (h := ?_)
    refine cl0 (hc := fun w hS => C_top_scheduled w) (h := ?_)
    refine wy asg ?_
    refine WL.cut (by repeat (first | exact Cut.nil | apply Cut.hit | apply Cut.miss (by exact rfl))) ?_
    refine nl (h := ?_)
    refine q_seq (h := ?_)
    refine rtn (h := ?_)
    refine q_then_ret (h := ?_)
    refine q_ret (hR := ?_)
    exact fun w hS => ⟨rfl, hS.sub .nil⟩
  · skip
    have h9 := h4
    rw [Bool.or_eq_false_iff, Bool.or_eq_false_iff, Bool.or_eq_false_iff, Bool.or_eq_false_iff, decide_eq_false_iff_not, decide_eq_false_iff_not, decide_eq_false_iff_not, decide_eq_false_iff_not, Bool.not_eq_false'] at h9
    obtain ⟨⟨⟨⟨hn8, hl20⟩, hsm⟩, hsd0⟩, hsd1⟩ := h9
    have hsm := smB_iff.1 hsm
    refine skp (h := ?_)
    refine q_seq (h := ?_)
    refine sq (h := ?_)
    refine rg (h := ?_)
    refine wy (by first | exact ldA | exact ldEA) ?_
    refine wy mv ?_
    refine wy (by first | exact fa | exact faE) ?_
    refine wy (by first | exact ld | exact ldE) ?_
    refine cl (hc := fun w hS => C_ref8_Jobs t l x.h.sg A c x.h.gA x.h.gc (by omega) (by omega) (by have := hsm.sg; omega) w (hS.get rdz_) (hS.get rdz_) (hS.get rdz_)) (h := fun x0 hx0 => ?_)
    refine wy mv ?_
    refine wy ex ?_
    refine wy ex ?_
    refine wy ex ?_
    refine wy asg ?_
    refine wy asg ?_
    refine wy asg ?_
    refine nl (h := ?_)
    refine q_seq (h := ?_)
    refine sq (h := ?_)
    refine sq (h := ?_)
    refine rg (h := ?_)
    refine wy mv ?_
    refine wy neq ?_
    refine wy mv ?_
    apply brOr 4 77 81 (by exact rfl)
    · intro hb5
      refine un (h := ?_)
      refine wy mv ?_
      refine un (h := ?_)
      refine wy lenS ?_
      refine un (h := ?_)
      refine wy eql ?_
      refine wy (by first | exact pkT | exact pkF) ?_
      exact mg (by repeat (first | exact trivial | refine ⟨rfl, ?_⟩ | refine ⟨by rw [hb5]; rfl, ?_⟩)) slz_
    · intro hb5
      repeat (first | refine un (h := ?_) | refine sk (h := ?_) | refine WL.y (hy := pkF) (h := ?_) | refine WL.y (hy := pkT) (h := ?_))
      exact mg (by repeat (first | exact trivial | refine ⟨rfl, ?_⟩ | refine ⟨by rw [hb5]; rfl, ?_⟩)) slz_
    refine wy mv ?_
    apply brOr 4 82 86 (by exact rfl)
    · intro hb6
      refine un (h := ?_)
      refine wy mv ?_
      refine un (h := ?_)
      refine wy lenS ?_
      refine un (h := ?_)
      refine wy gtr ?_
      refine wy (by first | exact pkT | exact pkF) ?_
      exact mg (by repeat (first | exact trivial | refine ⟨rfl, ?_⟩ | refine ⟨by rw [hb6]; rfl, ?_⟩)) slz_
    · intro hb6
      repeat (first | refine un (h := ?_) | refine sk (h := ?_) | refine WL.y (hy := pkF) (h := ?_) | refine WL.y (hy := pkT) (h := ?_))
      exact mg (by repeat (first | exact trivial | refine ⟨rfl, ?_⟩ | refine ⟨by rw [hb6]; rfl, ?_⟩)) slz_
    refine nl (h := ?_)
    refine q_seq (h := ?_)
    refine cd (by exact rfl) (fun h7 => ?_) (fun h7 => ?_)
    · skip
      refine sq (h := ?_)
      refine rg (h := ?_)
      refine cl0 (hc := fun w hS => C_top_scheduled w) (h := ?_)
      refine wy asg ?_
      refine WL.cut (by repeat (first | exact Cut.nil | apply Cut.hit | apply Cut.miss (by exact rfl))) ?_
      refine nl (h := ?_)
      refine q_seq (h := ?_)
      refine rtn (h := ?_)
      refine q_then_ret (h := ?_)
      refine q_ret (hR := ?_)
      exact fun w hS => ⟨rfl, hS.sub .nil⟩
    · skip
      have h9 := h7
      rw [Bool.or_eq_false_iff, Bool.or_eq_false_iff, Bool.not_eq_false', decide_eq_true_eq, decide_eq_false_iff_not, decide_eq_false_iff_not] at h9
      obtain ⟨d, ha, hsg, hon, ho6⟩ := hx0 h9.1.1
      have hx0 : _ ∧ _ ∧ x0.n = (openL t d).length ∧ x0.n ≤ 6 := ⟨ha, hsg, hon, ho6⟩
      have h6 : (openL t d).length ≤ 6 := by omega
      have ho0 : 0 < (openL t d).length := by omega
      refine skp (h := ?_)
      refine q_seq (h := ?_)
      refine sq (h := ?_)
      refine rg (h := ?_)
      refine wy (by first | exact ldA | exact ldEA) ?_
      refine wy mv ?_
      refine wy (by first | exact fa | exact faE) ?_
      refine wy (by first | exact ld | exact ldE) ?_
      refine cl (hc := fun w hS => C_play_Jobs t l d ha hc x.h.sg hsg h6 A c x.h.gA x.h.gc w (hS.get rdz_) (hS.get rdz_) (hS.get rdz_)) (h := fun x1 hJ => ?_)
      have hp : POk (x.h.pg x1.A x1.c x1.js) := prog_ok (pg_ok hsm.ok x1.A x1.c) hJ hsg h6
      have hJn := hJ.n
      refine wy mv ?_
      refine wy ex ?_
      refine wy ex ?_
      refine wy ex ?_
      refine wy asg ?_
      refine wy asg ?_
      refine wy asg ?_
      refine nl (h := ?_)
      refine q_seq (h := ?_)
      refine sq (h := ?_)
      refine sq (h := ?_)
      refine rg (h := ?_)
      refine wy mv ?_
      refine wy ((Yd.fl (neq) (by decide))) ?_
      refine wy mv ?_
      refine un (h := ?_)
      refine wy mv ?_
      refine un (h := ?_)
      refine wy lenS ?_
      refine un (h := ?_)
      refine wy mv ?_
      refine un (h := ?_)
      refine wy lenS ?_
      refine un (h := ?_)
      refine wy ((Yd.fl (neq) (by rw [decide_eq_true (by rw [hJ.n, hx0.2.2.1])]; rfl))) ?_
      refine wy (by first | exact pkT | exact pkF) ?_
      refine wy mv ?_
      refine un (h := ?_)
      refine wy mv ?_
      refine un (h := ?_)
      refine wy lenS ?_
      refine un (h := ?_)
      refine wy mv ?_
      refine un (h := ?_)
      refine wy lenS ?_
      refine un (h := ?_)
      refine wy ((Yd.fl (neq) (by rw [decide_eq_true (by rw [hJ.n])]; rfl))) ?_
      refine wy (by first | exact pkT | exact pkF) ?_
      refine nl (h := ?_)
      refine q_seq (h := ?_)
      refine cdF (h := ?_)
      refine skp (h := ?_)
      refine q_seq (h := ?_)
      refine sq (h := ?_)
      refine rg (h := ?_)
      refine wy (by first | exact fa | exact faE) ?_
      refine wy (by first | exact ld | exact ldE) ?_
      refine wy (by first | exact fa | exact faE) ?_
      refine wy (by first | exact ld | exact ldE) ?_
      refine wy mv ?_
      refine wy bd ?_
      refine al (h := fun b3 => ?_)
      first | refine stA (h := ?_) | refine stEA (h := ?_)
      refine nl (h := ?_)
      refine q_seq (h := ?_)
      refine sq (h := ?_)
      refine sq (h := ?_)
      refine rg (h := ?_)
      refine wy (by first | exact ldA | exact ldEA) ?_
      refine cl0 (hc := fun w hS => C_ref8_CheckV (x.h.pg x1.A x1.c x1.js) hp (jobs_wi hJ) w (progR hS H hJ h6 (hS.get rdz_) (fun r hr => hS.many (rs := x1.js.map afR) atz_ hr))) (h := ?_)
      refine wy ((Yd.fl (neq) (by decide))) ?_
      refine nl (h := ?_)
      refine q_seq (h := ?_)
      refine cdF (h := ?_)
      refine skp (h := ?_)
      refine q_seq (h := ?_)
      refine sq (h := ?_)
      refine rg (h := ?_)
      refine wy (by first | exact ldA | exact ldEA) ?_
      refine cl (hc := fun w hS => C_play_Best (x.h.pg x1.A x1.c x1.js) hp w (progR hS H hJ h6 (hS.get rdz_) (fun r hr => hS.many (rs := x1.js.map afR) atz_ hr))) (h := fun x2 hx2 => ?_)
      refine wy mv ?_
      refine wy ex ?_
      refine wy ex ?_
      refine wy asg ?_
      refine wy asg ?_
      refine nl (h := ?_)
      refine q_seq (h := ?_)
      refine sq (h := ?_)
      refine rg (h := ?_)
      refine wy (by first | exact ldA | exact ldEA) ?_
      refine cl (hc := fun w hS => C_play_Days (x.h.pg x1.A x1.c x1.js) hp w (progR hS H hJ h6 (hS.get rdz_) (fun r hr => hS.many (rs := x1.js.map afR) atz_ hr))) (h := fun q3 hq3 => ?_)
      refine wy mv ?_
      refine wy ex ?_
      refine wy ex ?_
      refine wy asg ?_
      refine wy asg ?_
      refine nl (h := ?_)
      refine q_seq (h := ?_)
      refine sq (h := ?_)
      refine sq (h := ?_)
      refine rg (h := ?_)
      refine wy mv ?_
      refine wy eql ?_
      refine nl (h := ?_)
      refine q_seq (h := ?_)
      refine cd (by exact rfl) (fun h10 => ?_) (fun h10 => ?_)
      · skip
        have hx2n : x2.q = none := by
          cases hq : x2.q with
          | none => rfl
          | some m =>
            exfalso
            have h9 := of_decide_eq_true h10
            rw [hq] at h9
            cases h9
        have hq3n := days_none hq3.1 (hx2.f hx2n)
        refine sq (h := ?_)
        refine rg (h := ?_)
        refine wy mv ?_
        refine wy mv ?_
        refine wy ((Yd.tr (eql) (by rw [hq3n, hx2n]; rfl))) ?_
        refine wy mv ?_
        refine un (h := ?_)
        refine cl0 (hc := fun w hS => C_top_scheduled w) (h := ?_)
        refine wy (by first | exact pkT | exact pkF) ?_
        refine wy asg ?_
        refine WL.cut (by repeat (first | exact Cut.nil | apply Cut.hit | apply Cut.miss (by exact rfl))) ?_
        refine nl (h := ?_)
        refine q_seq (h := ?_)
        refine rtn (h := ?_)
        refine q_then_ret (h := ?_)
        refine q_ret (hR := ?_)
        exact fun w hS => ⟨rfl, hS.sub .nil⟩
      · skip
        have hx2e : ∃ m, x2.q = some m := by
          cases hq : x2.q with
          | none =>
            exfalso
            have h9 := of_decide_eq_false h10
            rw [hq] at h9
            exact h9 rfl
          | some m => exact ⟨m, rfl⟩
        obtain ⟨m, hx2s⟩ := hx2e
        obtain ⟨hleast, hway⟩ := hx2.t m hx2s
        obtain ⟨m3, hq3s, hm3, -⟩ := days_some hq3.1 hq3.2 hleast.le hway
        obtain rfl : m3 = m := hm3.uniq hleast
        obtain ⟨hm0, hP, s0, o', hos⟩ := way_pos hway (by show 0 < x1.js.length; omega)
        have hoo := way_order hp (by exact_mod_cast hleast.le) hP
        have hst0 : StepP (x.h.pg x1.A x1.c x1.js) ((m3 : Nat) : Int) (openD (x.h.pg x1.A x1.c x1.js) 0) (fun _ => false) s0 := by rw [hos] at hP; exact hP.1
        have hs0 := hst0.job
        have hs0' : 0 ≤ s0.job ∧ s0.job < x1.js.length := hs0
        obtain ⟨own, hown⟩ : ∃ own : Nat, s0.job = own := ⟨s0.job.toNat, by omega⟩
        obtain ⟨⟨r, cc⟩, hop⟩ : ∃ z, (openP t d)[own]? = some z := ⟨_, List.getElem?_eq_getElem (by rw [← open_len, ← hJ.n]; omega)⟩
        obtain ⟨hr, hcc, hM⟩ := openP_mem.1 (List.mem_of_getElem? hop)
        dsimp only at hr hcc hM
        obtain ⟨j0, hj0⟩ : ∃ j, x1.js[own]? = some j := ⟨_, List.getElem?_eq_getElem (by omega)⟩
        have haf0 : j0.af = [] := by
          cases hja : j0.af with
          | nil => rfl
          | cons a az =>
            have h9 := hst0.af j0 (by rw [hown]; exact hj0) a (by rw [hja]; exact List.mem_cons_self)
            cases h9
        have hkn := first_known ha hJ hj0 hop haf0
        have hRl := ha.tr.r
        have hcl := szN_le (t := t) (by omega) r
        have hol := (List.getElem?_eq_some_iff.1 hop).1
        have hol2 : own < (openL t d).length := by rw [open_len]; exact hol
        refine skp (h := ?_)
        refine q_seq (h := ?_)
        refine sq (h := ?_)
        refine sq (h := ?_)
        refine WC.room (A := x2.A) (cap := x2.c) (T := 48) (size := 3) (k := x2.o.length) (es := encSe x2.o) atz_ (fun hroom => ?_)
        refine rg (h := ?_)
        refine wy mv ?_
        refine wy ((Yd.fl (neq) (by rw [hx2s]; rfl))) ?_
        refine wy mv ?_
        refine un (h := ?_)
        refine wy mv ?_
        refine un (h := ?_)
        refine wy ((Yd.fl (neq) (by rw [hq3s]; rfl))) ?_
        refine wy (by first | exact pkT | exact pkF) ?_
        refine wy mv ?_
        refine un (h := ?_)
        refine wy (by first | exact ldA | exact ldEA) ?_
        refine un (h := ?_)
        refine wy mv ?_
        refine un (h := ?_)
        refine cl0 (hc := fun w hS => C_ref8_IsOrderB (x.h.pg x1.A x1.c x1.js) hp x2.o x2.A x2.o.length x2.c hroom.1 hroom.2 w (progR hS H hJ h6 (hS.get rdz_) (fun r hr => hS.many (rs := x1.js.map afR) atz_ hr)) (hS.get rdz_)) (h := ?_)
        rw [ordB_iff.2 hoo]
        refine un (h := ?_)
        refine wy notB ?_
        refine wy (by first | exact pkT | exact pkF) ?_
        refine nl (h := ?_)
        refine q_seq (h := ?_)
        refine cdF (h := ?_)
        refine skp (h := ?_)
        refine q_seq (h := ?_)
        refine sq (h := ?_)
        refine rg (h := ?_)
        refine wy mv ?_
        refine wy (ix (A := x2.A) (m := x2.o.length) (hb := by rw [hos, List.length_cons]; omega)) ?_
        refine wy (by first | exact fa | exact faE) ?_
        refine wy (ldE (A := x2.A) (k := 0) (hk := by rw [hos]; exact encSe_at (l := s0 :: o') (k := 0) rfl)) ?_
        rw [hown]
        refine wy asg ?_
        refine nl (h := ?_)
        refine q_seq (h := ?_)
        refine sq (h := ?_)
        refine WC.room (A := x2.A) (cap := x2.c) (k := x2.o.length) atz_ (fun hroom => ?_)
        refine rg (h := ?_)
        refine wy mv ?_
        refine wy mv ?_
        refine wy (ix (A := x1.B) (m := (openL t d).length) (hb := by omega)) ?_
        refine wy (ldEW (A := x1.B) (cs := (boV d r cc).cells) (hk := encBo_at (open_get hop))) ?_
        refine al (h := fun b4 => ?_)
        first | refine stA (h := ?_) | refine stEA (h := ?_)
        refine nl (h := ?_)
        refine q_seq (h := ?_)
        refine sq (h := ?_)
        refine rg (h := ?_)
        refine wy (by first | exact ldA | exact ldEA) ?_
        refine wy mv ?_
        refine cl (hc := fun w hS => C_br_Ready t l d ha hc A c w (hS.get rdz_) (hS.get rdz_)) (h := fun x3 _ => ?_)
        have hcl2 : ((boL t d).filter (rdyB d)).length ≤ 80 := Nat.le_trans (List.length_filter_le ..) (bo_len ha.tr d)
        have hx2l : x2.o.length ≤ x1.js.length := hx2.n
        refine wy mv ?_
        refine wy ex ?_
        refine wy ex ?_
        refine wy asg ?_
        refine wy asg ?_
        refine nl (h := ?_)
        refine q_seq (h := ?_)
        refine sq (h := ?_)
        refine rg (h := ?_)
        refine wy asg ?_
        refine WL.cut (by repeat (first | exact Cut.nil | apply Cut.hit | apply Cut.miss (by exact rfl))) ?_
        refine nl (h := ?_)
        refine q_seq (h := ?_)
        refine sq (h := ?_)
        refine sq (h := ?_)
        refine rg (h := ?_)
        refine wy asg ?_
        refine WL.cut (by repeat (first | exact Cut.nil | apply Cut.hit | apply Cut.miss (by exact rfl))) ?_
        refine nl (h := ?_)
        refine q_seq (h := ?_)
        refine bk (h := ?_)
        refine lp (X := FoZ) (I := fun z => z.k ≤ ((boL t d).filter (rdyB d)).length ∧ ∀ i, i < z.k → ((boL t d).filter (rdyB d))[i]? = some (boV d r cc) → z.b = true) (le := fun z => [(1, .slice A l.length c), (3, .pointer (some ⟨b0, 0, none⟩)), (5, .pointer (some ⟨b1, 0, none⟩)), (7, .pointer (some ⟨b2, 0, none⟩)), (11, .slice x1.A x1.js.length x1.c), (15, .slice x2.A x2.o.length x2.c), (17, .int .i64 ((q3.getD 0 : Nat) : Int)), (19, .int .i64 ((own : Nat) : Int)), (20, .pointer (some ⟨b4, 0, none⟩)), (21, .slice x3.1 ((boL t d).filter (rdyB d)).length x3.2), (22, .int .i64 0), (23, .bool z.b), (24, .int .i64 z.k)]) (Le := fun _ => [.own x3.1 x3.2 50 4 ((boL t d).filter (rdyB d)).length (encBo ((boL t d).filter (rdyB d))), .blk b4 50 (boV d r cc).cells, .blk b2 29 x.h.cells, .blk b1 31 x.cells, .blk b0 24 t.cells, .own x2.A x2.c 48 3 x2.o.length (encSe x2.o), .ro x.h.gA 3 x.h.sg.length (encStg x.h.sg), .ro A 5 l.length (encSl l), .ro t.A 1 t.sl.length (enI t.sl)]) (μ := fun z => ((boL t d).filter (rdyB d)).length - z.k) ⟨0, false⟩ ⟨Nat.zero_le _, fun i hi => absurd hi (Nat.not_lt_zero _)⟩ sbz_ slz_ (fun z hz => ?_)
        obtain ⟨hz1, hz2⟩ := hz
        refine sq (h := ?_)
        refine sq (h := ?_)
        refine rg (h := ?_)
        refine wy mv ?_
        refine wy mv ?_
        refine wy lenS ?_
        refine wy lss ?_
        refine nl (h := ?_)
        refine q_seq (h := ?_)
        refine cd (by exact rfl) (fun h12 => ?_) (fun h12 => ?_)
        · skip
          have hkn2 : z.k < ((boL t d).filter (rdyB d)).length := by have := of_decide_eq_true h12; omega
          obtain ⟨y, hy⟩ : ∃ y, ((boL t d).filter (rdyB d))[z.k]? = some y := ⟨_, List.getElem?_eq_getElem hkn2⟩
          have hye := encBo_at hy
          refine skp (h := ?_)
          refine q_seq (h := ?_)
          refine sq (h := ?_)
          refine bk (h := ?_)
          refine rgD (by kernel_rfl) [(1000000, .own x3.1 x3.2 50 4 ((boL t d).filter (rdyB d)).length (encBo ((boL t d).filter (rdyB d)))), (1000000, .blk b4 50 (boV d r cc).cells)] (by repeat (first | exact HS.nil | (apply HS.keep; (repeat (first | exact At.here | apply At.there))) | (apply HS.ro; (repeat (first | exact Rds.ro | exact Rds.own | apply Rds.there))))) (h := ?_)
          refine tk 0 (hy := mv) (h := ?_)
          refine tk 1 (hy := mv) (h := ?_)
          refine brH (g := 173) (by exact rfl) (fun hb13 => ?_) (fun hb13 => ?_)
          · skip
            have hgT := hb13
            refine tkS 2 (h := ?_)
            refine tkS 3 (h := ?_)
            refine tkS 4 (h := ?_)
            refine tkS 5 (h := ?_)
            refine tkS 6 (h := ?_)
            refine tkS 7 (h := ?_)
            refine tk 8 (hy := (by first | exact pkT | exact pkF)) (h := ?_)
            refine tk 9 (hy := asg) (h := ?_)
            refine dn (h := ?_)
            refine q_blk_norm (h := ?_)
            refine q_seq (h := ?_)
            refine rg (h := ?_)
            refine wy mv ?_
            refine wy addI ?_
            refine wy asg ?_
            refine WL.cut (by repeat (first | exact Cut.nil | apply Cut.hit | apply Cut.miss (by exact rfl))) ?_
            refine nl (h := ?_)
            first
              | (have e9 := hgT; refine rn (x := z) ⟨z.k + 1, true⟩ ⟨hkn2, fun _ _ _ => rfl⟩ (by dsimp only; omega) sbz_ slz_; done)
              | (have e9 := hgF; refine rn (x := z) ⟨z.k + 1, decide ([y.r, y.p, y.one, y.two] = [(boV d r cc).r, (boV d r cc).p, (boV d r cc).one, (boV d r cc).two])⟩ ⟨hkn2, fun i hi he => by
                  by_cases e : i = z.k
                  · subst e
                    rw [hy] at he
                    rw [Option.some.inj he]; exact decide_eq_true rfl
                  · have h9 := hz2 i (by dsimp only at hi; omega) he
                    have h8 : z.b = false := hgF
                    rw [h8] at h9; cases h9⟩ (by dsimp only; omega) sbz_ slz_; done)
          · skip
            have hgF := hb13
            refine tk 2 (hy := mv) (h := ?_)
            refine tk 3 (hy := mv) (h := ?_)
            refine tk 4 (hy := ix (A := x3.1) (m := ((boL t d).filter (rdyB d)).length) (hb := by omega)) (h := ?_)
            refine tk 5 (hy := ldEW (A := x3.1) (cs := y.cells) (hk := hye)) (h := ?_)
            refine tk 6 (hy := (by first | exact ldA | exact ldEA)) (h := ?_)
            refine tk 7 (hy := eqlT) (h := ?_)
            refine tk 8 (hy := (by first | exact pkT | exact pkF)) (h := ?_)
            refine tk 9 (hy := asg) (h := ?_)
            refine dn (h := ?_)
            refine q_blk_norm (h := ?_)
            refine q_seq (h := ?_)
            refine rg (h := ?_)
            refine wy mv ?_
            refine wy addI ?_
            refine wy asg ?_
            refine WL.cut (by repeat (first | exact Cut.nil | apply Cut.hit | apply Cut.miss (by exact rfl))) ?_
            refine nl (h := ?_)
            first
              | (have e9 := hgT; refine rn (x := z) ⟨z.k + 1, true⟩ ⟨hkn2, fun _ _ _ => rfl⟩ (by dsimp only; omega) sbz_ slz_; done)
              | (have e9 := hgF; refine rn (x := z) ⟨z.k + 1, decide ([y.r, y.p, y.one, y.two] = [(boV d r cc).r, (boV d r cc).p, (boV d r cc).one, (boV d r cc).two])⟩ ⟨hkn2, fun i hi he => by
                  by_cases e : i = z.k
                  · subst e
                    rw [hy] at he
                    rw [Option.some.inj he]; exact decide_eq_true rfl
                  · have h9 := hz2 i (by dsimp only at hi; omega) he
                    have h8 : z.b = false := hgF
                    rw [h8] at h9; cases h9⟩ (by dsimp only; omega) sbz_ slz_; done)
        · skip
          have hkn2 : z.k = ((boL t d).filter (rdyB d)).length := by have := of_decide_eq_false h12; omega
          have hzb : z.b = true := by
            have hin : boV d r cc ∈ (boL t d).filter (rdyB d) := List.mem_filter.2 ⟨List.mem_of_getElem? (bo_at t d hr hcc), by
              unfold rdyB
              rw [decide_eq_true (show d.M (boV d r cc).r.toNat (boV d r cc).p.toNat = -2 from hM), decide_eq_true (show 0 ≤ min (boV d r cc).one (boV d r cc).two from by have h1 := hkn 0 (by omega); have h2 := hkn 1 (by omega); show 0 ≤ min (ofV d r cc 0) (ofV d r cc 1); omega)]; rfl⟩
            obtain ⟨i, hi⟩ := List.getElem?_of_mem hin
            exact hz2 i (by rw [hkn2]; exact (List.getElem?_eq_some_iff.1 hi).1) hi
          rw [hzb, hq3s]
          refine et (h := ?_)
          refine q_then_exit (h := ?_)
          refine q_then_exit (h := ?_)
          refine q_blk_hit (h := ?_)
          refine q_seq (h := ?_)
          refine sq (h := ?_)
          refine sq (h := ?_)
          refine rg (h := ?_)
          refine wy mv ?_
          refine wy ((Yd.fl (neq) (by decide))) ?_
          refine wy mv ?_
          refine un (h := ?_)
          refine wy mv ?_
          refine un (h := ?_)
          refine wy notB ?_
          refine wy (by first | exact pkT | exact pkF) ?_
          refine nl (h := ?_)
          refine q_seq (h := ?_)
          refine cdF (h := ?_)
          refine skp (h := ?_)
          refine q_seq (h := ?_)
          refine sq (h := ?_)
          refine rg (h := ?_)
          refine wy (by first | exact fa | exact faE) ?_
          refine wy (by first | exact ld | exact ldE) ?_
          refine wy asg ?_
          refine WL.cut (by repeat (first | exact Cut.nil | apply Cut.hit | apply Cut.miss (by exact rfl))) ?_
          refine nl (h := ?_)
          refine q_seq (h := ?_)
          refine ct (X := Nat) (fun σ => σ < 2) (fun σ => [(1, .slice A l.length c), (3, .pointer (some ⟨b0, 0, none⟩)), (7, .pointer (some ⟨b2, 0, none⟩)), (11, .slice x1.A x1.js.length x1.c), (15, .slice x2.A x2.o.length x2.c), (17, .int .i64 ((m3 : Nat) : Int)), (19, .int .i64 ((own : Nat) : Int)), (20, .pointer (some ⟨b4, 0, none⟩)), (25, .int .i64 (ofV d r cc σ))]) (fun _ => [.blk b4 50 (boV d r cc).cells, .blk b2 29 x.h.cells, .blk b0 24 t.cells, .own x2.A x2.c 48 3 x2.o.length (encSe x2.o), .ro x.h.gA 3 x.h.sg.length (encStg x.h.sg), .ro A 5 l.length (encSl l), .ro t.A 1 t.sl.length (enI t.sl)]) (h1 := ?_) (h2 := ?_)
          · skip
            refine sq (h := ?_)
            refine rg (h := ?_)
            refine wy (by first | exact fa | exact faE) ?_
            refine wy (by first | exact ld | exact ldE) ?_
            refine wy eql ?_
            refine nl (h := ?_)
            refine q_seq (h := ?_)
            refine cd (by exact rfl) (fun h15 => ?_) (fun h15 => ?_)
            · skip
              have hS1 := h15
              refine rg (h := ?_)
              refine wy (by first | exact fa | exact faE) ?_
              refine wy (by first | exact ld | exact ldE) ?_
              refine wy asg ?_
              refine WL.cut (by repeat (first | exact Cut.nil | apply Cut.hit | apply Cut.miss (by exact rfl))) ?_
              refine nl (h := ?_)
              first
                | have e9 := hS1; exact ctn (x := 1) (by omega) sbz_ slz_
                | have e9 := hS0; exact ctn (x := 0) (by omega) sbz_ slz_
            · skip
              have hS0 := h15
              refine skp (h := ?_)
              first
                | have e9 := hS1; exact ctn (x := 1) (by omega) sbz_ slz_
                | have e9 := hS0; exact ctn (x := 0) (by omega) sbz_ slz_
          intro σ hσ
          have ha2 := ha.more hr hcc hM hσ rfl (hkn σ hσ) (by omega)
          have hN2 : (openL t ⟨d.sl, upM d.M r cc (ofV d r cc σ)⟩).length + 1 = (openL t d).length := by
            rw [open_len, open_len, openP_more hop (by have := hkn σ hσ; omega), List.length_eraseIdx_of_lt (by omega)]
            omega
          have h62 : (openL t ⟨d.sl, upM d.M r cc (ofV d r cc σ)⟩).length ≤ 6 := by omega
          refine ct (X := OAC) (fun _ => True) (fun y => [(3, .pointer (some ⟨b0, 0, none⟩)), (7, .pointer (some ⟨b2, 0, none⟩)), (11, .slice x1.A x1.js.length x1.c), (15, .slice x2.A x2.o.length x2.c), (17, .int .i64 ((m3 : Nat) : Int)), (19, .int .i64 ((own : Nat) : Int)), (26, .slice y.1 (l ++ [(⟨1, r, cc, ofV d r cc σ, 0⟩ : Sl)]).length y.2)]) (fun y => [.own y.1 y.2 54 5 (l ++ [(⟨1, r, cc, ofV d r cc σ, 0⟩ : Sl)]).length (encSl (l ++ [⟨1, r, cc, ofV d r cc σ, 0⟩])), .blk b2 29 x.h.cells, .blk b0 24 t.cells, .own x2.A x2.c 48 3 x2.o.length (encSe x2.o), .ro x.h.gA 3 x.h.sg.length (encStg x.h.sg), .ro t.A 1 t.sl.length (enI t.sl)]) (h1 := ?_) (h2 := ?_)
          · skip
            refine rgD (by kernel_rfl) [(1000000, .blk b4 50 (boV d r cc).cells)] (by repeat (first | exact HS.nil | (apply HS.keep; (repeat (first | exact At.here | apply At.there))) | (apply HS.ro; (repeat (first | exact Rds.ro | exact Rds.own | apply Rds.there))))) (h := ?_)
            refine tk 1 (hy := mv) (h := ?_)
            refine tk 3 (hy := (by first | exact fa | exact faE)) (h := ?_)
            refine tk 4 (hy := (by first | exact ld | exact ldE)) (h := ?_)
            refine tk 5 (hy := (by first | exact fa | exact faE)) (h := ?_)
            refine tk 6 (hy := (by first | exact ld | exact ldE)) (h := ?_)
            refine tk 7 (hy := mv) (h := ?_)
            refine tk 8 (hy := bd) (h := ?_)
            refine two 0 9 (h1 := ?_) (h2 := ?_)
            · skip
              refine bs (h := fun b5 => ?_)
              refine nx (h := ?_)
              refine two 2 9 (h1 := ?_) (h2 := ?_)
              · skip
                refine ap (es := []) (m := 0) (k := l.length) (A2 := A) (es2 := encSl l) (h := fun A9 c9 => ?_)
                rw [Nat.zero_add, List.nil_append]
                refine nx (h := ?_)
                refine one 9 (h := ?_)
                refine bs (h := fun b6 => ?_)
                refine nx (h := ?_)
                refine one 10 (h := ?_)
                refine ap (es := encSl l) (m := l.length) (k := 1) (A := A9) (c := c9) (h := fun A2 c2 => ?_)
                rw [show encSl l ++ [[Value.int .i64 1, .int .i64 (boV d r cc).r, .int .i64 (boV d r cc).p, .int .i64 (ofV d r cc σ), .int .i64 0]] = encSl (l ++ [⟨1, r, cc, ofV d r cc σ, 0⟩]) from (encSl_snoc l ⟨1, r, cc, ofV d r cc σ, 0⟩).symm, show l.length + 1 = (l ++ [(⟨1, r, cc, ofV d r cc σ, 0⟩ : Sl)]).length by rw [List.length_append]; rfl]
                refine nx (h := ?_)
                refine tk 11 (hy := asg) (h := ?_)
                refine dn (h := ?_)
                exact ctn (x := (A2, c2)) trivial sbz_ slz_
              · skip
                refine bs (h := fun b7 => ?_)
                refine nx (h := ?_)
                refine one 2 (h := ?_)
                refine ap (es := []) (m := 0) (k := l.length) (A2 := A) (es2 := encSl l) (h := fun A9 c9 => ?_)
                rw [Nat.zero_add, List.nil_append]
                refine nx (h := ?_)
                refine one 10 (h := ?_)
                refine ap (es := encSl l) (m := l.length) (k := 1) (A := A9) (c := c9) (h := fun A2 c2 => ?_)
                rw [show encSl l ++ [[Value.int .i64 1, .int .i64 (boV d r cc).r, .int .i64 (boV d r cc).p, .int .i64 (ofV d r cc σ), .int .i64 0]] = encSl (l ++ [⟨1, r, cc, ofV d r cc σ, 0⟩]) from (encSl_snoc l ⟨1, r, cc, ofV d r cc σ, 0⟩).symm, show l.length + 1 = (l ++ [(⟨1, r, cc, ofV d r cc σ, 0⟩ : Sl)]).length by rw [List.length_append]; rfl]
                refine nx (h := ?_)
                refine tk 11 (hy := asg) (h := ?_)
                refine dn (h := ?_)
                exact ctn (x := (A2, c2)) trivial sbz_ slz_
            · skip
              refine bs (h := fun b8 => ?_)
              refine nx (h := ?_)
              refine one 0 (h := ?_)
              refine bs (h := fun b9 => ?_)
              refine nx (h := ?_)
              refine one 2 (h := ?_)
              refine ap (es := []) (m := 0) (k := l.length) (A2 := A) (es2 := encSl l) (h := fun A9 c9 => ?_)
              rw [Nat.zero_add, List.nil_append]
              refine nx (h := ?_)
              refine one 10 (h := ?_)
              refine ap (es := encSl l) (m := l.length) (k := 1) (A := A9) (c := c9) (h := fun A2 c2 => ?_)
              rw [show encSl l ++ [[Value.int .i64 1, .int .i64 (boV d r cc).r, .int .i64 (boV d r cc).p, .int .i64 (ofV d r cc σ), .int .i64 0]] = encSl (l ++ [⟨1, r, cc, ofV d r cc σ, 0⟩]) from (encSl_snoc l ⟨1, r, cc, ofV d r cc σ, 0⟩).symm, show l.length + 1 = (l ++ [(⟨1, r, cc, ofV d r cc σ, 0⟩ : Sl)]).length by rw [List.length_append]; rfl]
              refine nx (h := ?_)
              refine tk 11 (hy := asg) (h := ?_)
              refine dn (h := ?_)
              exact ctn (x := (A2, c2)) trivial sbz_ slz_
          rintro y -
          have hlm : (l ++ [(⟨1, r, cc, ofV d r cc σ, 0⟩ : Sl)]).length = l.length + 1 := by rw [List.length_append]; rfl
          refine sq (h := ?_)
          refine sq (h := ?_)
          refine rg (h := ?_)
          refine wy (by first | exact ldA | exact ldEA) ?_
          refine wy mv ?_
          refine cl (hc := fun w hS => C_ref7_Check t (l ++ [⟨1, r, cc, ofV d r cc σ, 0⟩]) y.1 y.2 (by omega) (by omega) w (hS.get rdz_) (hS.get rdz_)) (h := fun e7 he7 => ?_)
          obtain rfl : e7 = 0 := he7.2 _ ha2
          refine wy ((Yd.fl (neq) (by decide))) ?_
          refine nl (h := ?_)
          refine q_seq (h := ?_)
          refine cdF (h := ?_)
          refine skp (h := ?_)
          refine q_seq (h := ?_)
          refine sq (h := ?_)
          refine rg (h := ?_)
          refine wy (by first | exact ldA | exact ldEA) ?_
          refine wy mv ?_
          refine wy (by first | exact fa | exact faE) ?_
          refine wy (by first | exact ld | exact ldE) ?_
          refine cl (hc := fun w hS => C_play_Jobs t (l ++ [⟨1, r, cc, ofV d r cc σ, 0⟩]) ⟨d.sl, upM d.M r cc (ofV d r cc σ)⟩ ha2 hc x.h.sg hsg h62 y.1 y.2 x.h.gA x.h.gc w (hS.get rdz_) (hS.get rdz_) (hS.get rdz_)) (h := fun x4 hJ2 => ?_)
          have hR : Rdc (x.h.pg x1.A x1.c x1.js) (x.h.pg x4.A x4.c x4.js) own := jobs_rdc rfl rfl hJ hJ2 hop (by have := hkn σ hσ; omega)
          refine wy mv ?_
          refine wy ex ?_
          refine wy ex ?_
          refine wy ex ?_
          refine wy asg ?_
          refine WL.cut (by repeat (first | exact Cut.nil | apply Cut.hit | apply Cut.miss (by exact rfl))) ?_
          refine wy asg ?_
          refine WL.cut (by repeat (first | exact Cut.nil | apply Cut.hit | apply Cut.miss (by exact rfl))) ?_
          refine wy asg ?_
          refine WL.cut (by repeat (first | exact Cut.nil | apply Cut.hit | apply Cut.miss (by exact rfl))) ?_
          refine nl (h := ?_)
          refine q_seq (h := ?_)
          refine sq (h := ?_)
          refine sq (h := ?_)
          refine rg (h := ?_)
          refine wy mv ?_
          refine wy ((Yd.fl (neq) (by decide))) ?_
          refine wy mv ?_
          refine un (h := ?_)
          refine wy mv ?_
          refine un (h := ?_)
          refine wy lenS ?_
          refine un (h := ?_)
          refine wy mv ?_
          refine un (h := ?_)
          refine wy lenS ?_
          refine un (h := ?_)
          refine wy (subI (hb := by omega)) ?_
          refine un (h := ?_)
          refine wy ((Yd.fl (neq) (by rw [decide_eq_true (by have := hR.n; dsimp only at this; omega)]; rfl))) ?_
          refine wy (by first | exact pkT | exact pkF) ?_
          refine nl (h := ?_)
          refine q_seq (h := ?_)
          refine cdF (h := ?_)
          refine skp (h := ?_)
          refine q_seq (h := ?_)
          refine sq (h := ?_)
          refine WC.nilOwn 48 3 (h := ?_)
          refine rg (h := ?_)
          refine wy asg ?_
          refine WL.cut (by repeat (first | exact Cut.nil | apply Cut.hit | apply Cut.miss (by exact rfl))) ?_
          refine nl (h := ?_)
          refine q_seq (h := ?_)
          refine sq (h := ?_)
          refine sq (h := ?_)
          refine rg (h := ?_)
          refine wy asg ?_
          refine WL.cut (by repeat (first | exact Cut.nil | apply Cut.hit | apply Cut.miss (by exact rfl))) ?_
          refine nl (h := ?_)
          refine q_seq (h := ?_)
          refine bk (h := ?_)
          refine lp (X := ReZ) (I := fun u => u.j ≤ o'.length) (le := fun u => [(7, .pointer (some ⟨b2, 0, none⟩)), (15, .slice x2.A x2.o.length x2.c), (17, .int .i64 ((m3 : Nat) : Int)), (19, .int .i64 ((own : Nat) : Int)), (27, .slice x4.A x4.js.length x4.c), (30, .slice u.A u.j u.c), (31, .int .i64 ((u.j : Int) + 1))]) (Le := fun u => [.own u.A u.c 48 3 u.j (encSe ((o'.take u.j).map (ren own))), .own x4.A x4.c 80 6 x4.js.length (encJb x4.js), manyE true (x4.js.map afR), .blk b2 29 x.h.cells, .own x2.A x2.c 48 3 x2.o.length (encSe x2.o)]) (μ := fun u => o'.length - u.j) ⟨0, none, 0⟩ (Nat.zero_le _) sbz_ slz_ (fun u hu => ?_)
          refine sq (h := ?_)
          refine sq (h := ?_)
          refine rg (h := ?_)
          refine wy mv ?_
          refine wy mv ?_
          refine wy lenS ?_
          refine wy lss ?_
          refine nl (h := ?_)
          refine q_seq (h := ?_)
          refine cd (by exact rfl) (fun h18 => ?_) (fun h18 => ?_)
          · skip
            have hjn : u.j < o'.length := by have h9 := of_decide_eq_true h18; rw [hos, List.length_cons] at h9; omega
            obtain ⟨s, hs⟩ : ∃ s, o'[u.j]? = some s := ⟨_, List.getElem?_eq_getElem hjn⟩
            have hse : (encSe x2.o)[((u.j : Int) + 1).toNat]? = some s.cells := by rw [show ((u.j : Int) + 1).toNat = u.j + 1 by omega, hos]; exact encSe_at hs
            have hxl : x2.o.length = o'.length + 1 := by rw [hos]; rfl
            have hmay := hoo.at_ (u.j + 1) s (by omega) (by rw [hos]; exact hs)
            have hsne : s.job ≠ own := by
              have h9 := hmay.new s0 (by rw [hos]; exact List.mem_cons_self)
              rw [hown] at h9
              exact fun e => h9 e.symm
            have hsj : 0 ≤ s.job ∧ s.job < x1.js.length := hmay.job
            have htk := ren_take (own := own) hs
            refine skp (h := ?_)
            refine q_seq (h := ?_)
            refine sq (h := ?_)
            refine bk (h := ?_)
            refine sq (h := ?_)
            refine rg (h := ?_)
            refine wy mv ?_
            refine wy mv ?_
            refine wy (ix (A := x2.A) (m := x2.o.length) (hb := by omega)) ?_
            refine wy (ldEW (A := x2.A) (cs := s.cells) (hk := hse)) ?_
            refine al (h := fun bse => ?_)
            first | refine stA (h := ?_) | refine stEA (h := ?_)
            refine nl (h := ?_)
            refine q_seq (h := ?_)
            refine sq (h := ?_)
            refine sq (h := ?_)
            refine rg (h := ?_)
            refine wy (by first | exact fa | exact faE) ?_
            refine wy (by first | exact ld | exact ldE) ?_
            refine wy mv ?_
            refine wy gtr ?_
            refine nl (h := ?_)
            refine q_seq (h := ?_)
            refine cd (by exact rfl) (fun h19 => ?_) (fun h19 => ?_)
            · skip
              have hgt : (own : Int) < s.job := of_decide_eq_true h19
              have hrc := ren_gt hgt
              refine rg (h := ?_)
              refine wy (by first | exact fa | exact faE) ?_
              refine wy (by first | exact ld | exact ldE) ?_
              refine wy (subI (hb := by omega)) ?_
              refine wy (by first | exact fa | exact faE) ?_
              first | refine st (h := ?_) | refine stE (h := ?_)
              refine nl (h := ?_)
              refine q_seq (h := ?_)
              refine rg (h := ?_)
              refine wy mv ?_
              refine wy (by first | exact ldA | exact ldEA) ?_
              refine bs (h := fun b10 => ?_)
              refine ap (es := encSe ((o'.take u.j).map (ren own))) (m := u.j) (k := 1) (A := u.A) (c := u.c) (h := fun A5 c5 => ?_)
              first
                | (have e9 := hgt; rw [show encSe ((o'.take u.j).map (ren own)) ++ [[Value.int .i64 (s.job - 1), .int .i64 s.day, .int .i64 s.court]] = encSe ((o'.take (u.j + 1)).map (ren own)) by rw [htk, ← encSe_snoc, hrc]])
                | (have e9 := hlt; rw [show encSe ((o'.take u.j).map (ren own)) ++ [[Value.int .i64 s.job, .int .i64 s.day, .int .i64 s.court]] = encSe ((o'.take (u.j + 1)).map (ren own)) by rw [htk, ← encSe_snoc, hrc]])
              refine wy asg ?_
              refine WL.cut (by repeat (first | exact Cut.nil | apply Cut.hit | apply Cut.miss (by exact rfl))) ?_
              refine nl (h := ?_)
              refine q_blk_norm (h := ?_)
              refine q_seq (h := ?_)
              refine rg (h := ?_)
              refine wy mv ?_
              refine wy addI ?_
              refine wy asg ?_
              refine WL.cut (by repeat (first | exact Cut.nil | apply Cut.hit | apply Cut.miss (by exact rfl))) ?_
              refine nl (h := ?_)
              refine rn (x := u) ⟨u.j + 1, A5, c5⟩ hjn (by dsimp only; omega) sbz_ slz_
            · skip
              have hlt : s.job < (own : Int) := by have := of_decide_eq_false h19; omega
              have hrc := ren_lt hlt
              refine skp (h := ?_)
              refine q_seq (h := ?_)
              refine rg (h := ?_)
              refine wy mv ?_
              refine wy (by first | exact ldA | exact ldEA) ?_
              refine bs (h := fun b11 => ?_)
              refine ap (es := encSe ((o'.take u.j).map (ren own))) (m := u.j) (k := 1) (A := u.A) (c := u.c) (h := fun A5 c5 => ?_)
              first
                | (have e9 := hgt; rw [show encSe ((o'.take u.j).map (ren own)) ++ [[Value.int .i64 (s.job - 1), .int .i64 s.day, .int .i64 s.court]] = encSe ((o'.take (u.j + 1)).map (ren own)) by rw [htk, ← encSe_snoc, hrc]])
                | (have e9 := hlt; rw [show encSe ((o'.take u.j).map (ren own)) ++ [[Value.int .i64 s.job, .int .i64 s.day, .int .i64 s.court]] = encSe ((o'.take (u.j + 1)).map (ren own)) by rw [htk, ← encSe_snoc, hrc]])
              refine wy asg ?_
              refine WL.cut (by repeat (first | exact Cut.nil | apply Cut.hit | apply Cut.miss (by exact rfl))) ?_
              refine nl (h := ?_)
              refine q_blk_norm (h := ?_)
              refine q_seq (h := ?_)
              refine rg (h := ?_)
              refine wy mv ?_
              refine wy addI ?_
              refine wy asg ?_
              refine WL.cut (by repeat (first | exact Cut.nil | apply Cut.hit | apply Cut.miss (by exact rfl))) ?_
              refine nl (h := ?_)
              refine rn (x := u) ⟨u.j + 1, A5, c5⟩ hjn (by dsimp only; omega) sbz_ slz_
          · skip
            have hjn : u.j = o'.length := by have h9 := of_decide_eq_false h18; rw [hos, List.length_cons] at h9; omega
            have hJ2n := hJ2.n
            have hq : POk (x.h.pg x4.A x4.c x4.js) := prog_ok (pg_ok hsm.ok x4.A x4.c) hJ2 hsg h62
            have hPq := rm_first hR hp hq (s := s0) (o := o') (days := ((m3 : Nat) : Int)) (by rw [← hos]; exact hP) hown
            have hOq := way_order hq (by exact_mod_cast hleast.le) hPq
            have hFq := way_fits hPq
            have hWq : WayO (x.h.pg x4.A x4.c x4.js) m3 (o'.map (ren own)) := by unfold WayO; rw [if_neg hm0]; exact hPq
            rw [hjn, List.take_length]
            refine et (h := ?_)
            refine q_then_exit (h := ?_)
            refine q_then_exit (h := ?_)
            refine q_blk_hit (h := ?_)
            refine q_seq (h := ?_)
            refine sq (h := ?_)
            refine rg (h := ?_)
            refine wy (by first | exact fa | exact faE) ?_
            refine wy (by first | exact ld | exact ldE) ?_
            refine wy (by first | exact fa | exact faE) ?_
            refine wy (by first | exact ld | exact ldE) ?_
            refine wy mv ?_
            refine wy bd ?_
            refine al (h := fun bqe => ?_)
            first | refine stA (h := ?_) | refine stEA (h := ?_)
            refine nl (h := ?_)
            refine q_seq (h := ?_)
            refine sq (h := ?_)
            refine rg (h := ?_)
            refine wy (by first | exact ldA | exact ldEA) ?_
            refine wy mv ?_
            refine cl0 (hc := fun w hS => C_play_Fits (x.h.pg x4.A x4.c x4.js) hq (o'.map (ren own)) hOq hFq u.A o'.length u.c w (progR hS H hJ2 h62 (hS.get (A := x4.A) (es := encJb x4.js) rdz_) (fun r hr => hS.many (rs := x4.js.map afR) atz_ hr)) (hS.get rdz_)) (h := ?_)
            refine wy mv ?_
            refine wy ex ?_
            refine wy ex ?_
            refine wy ex ?_
            refine wy asg ?_
            refine wy asg ?_
            refine wy asg ?_
            refine nl (h := ?_)
            refine q_seq (h := ?_)
            refine sq (h := ?_)
            refine rg (h := ?_)
            refine wy (by first | exact ldA | exact ldEA) ?_
            refine cl (hc := fun w hS => C_play_Days (x.h.pg x4.A x4.c x4.js) hq w (progR hS H hJ2 h62 (hS.get (A := x4.A) (es := encJb x4.js) rdz_) (fun r hr => hS.many (rs := x4.js.map afR) atz_ hr))) (h := fun q5 hq5' => ?_)
            obtain ⟨k5, hq5, -, hk5⟩ := days_some hq5'.1 hq5'.2 hleast.le hWq
            refine wy mv ?_
            refine wy ex ?_
            refine wy ex ?_
            refine wy asg ?_
            refine wy asg ?_
            refine nl (h := ?_)
            refine q_seq (h := ?_)
            refine sq (h := ?_)
            refine rg (h := ?_)
            refine wy mv ?_
            refine wy ((Yd.tr (eql) (by decide))) ?_
            refine wy mv ?_
            refine un (h := ?_)
            refine wy mv ?_
            refine wy (by first | exact pkT | exact pkF) ?_
            refine wy mv ?_
            refine un (h := ?_)
            refine wy mv ?_
            refine un (h := ?_)
            refine wy ((Yd.tr (eql) (by rw [hq5]; rfl))) ?_
            refine wy (by first | exact pkT | exact pkF) ?_
            refine wy mv ?_
            refine un (h := ?_)
            refine wy mv ?_
            refine un (h := ?_)
            refine wy mv ?_
            refine un (h := ?_)
            refine wy ((Yd.tr (leq) (by rw [hq5]; exact decide_eq_true (by show ((k5 : Nat) : Int) ≤ ((m3 : Nat) : Int); omega)))) ?_
            refine wy (by first | exact pkT | exact pkF) ?_
            refine wy mv ?_
            refine un (h := ?_)
            refine cl0 (hc := fun w hS => C_top_scheduled w) (h := ?_)
            refine wy (by first | exact pkT | exact pkF) ?_
            refine wy asg ?_
            refine WL.cut (by repeat (first | exact Cut.nil | apply Cut.hit | apply Cut.miss (by exact rfl))) ?_
            refine nl (h := ?_)
            refine q_seq (h := ?_)
            refine rtn (h := ?_)
            refine q_ret (hR := ?_)
            exact fun w hS => ⟨rfl, hS.sub .nil⟩
end Go.Proofs.YtmlhnajgiopfgaaGreat
