/- The texts of the walk, part 6. -/
import Derived.Test.YtncoimjgjpcipaaJ5
namespace Go.Proofs.Ytncoimjgjpcipaa
open Go Go.RowKit

theorem putNs_key {ns : List Nd} {x : Nd} {s : Spot} : s ∈ spotKs (putNs ns x) ↔ s ∈ spotKs ns ∨ s = x.s := by
  unfold putNs
  cases hg : getN ns x.s with
  | some o =>
    obtain ⟨h1, h2⟩ := getN_some hg
    refine ⟨.inl, fun h => h.elim id fun e => ?_⟩
    subst e
    exact List.mem_map.2 ⟨o, h1, h2⟩
  | none =>
    unfold spotKs
    rw [List.map_append, List.mem_append]
    simp
def rowsV (nx : List CW) (m : Nat) : List (List Value) := nx.map CW.v ++ List.replicate (m - nx.length) [.map none]
theorem rowsV_nil (m : Nat) : rowsV [] m = List.replicate m [.map none] := rfl
theorem rowsV_at {nx : List CW} {m : Nat} (h : nx.length < m) : (rowsV nx m)[nx.length]? = some [.map none] := by
  unfold rowsV
  rw [List.getElem?_append_right (by rw [List.length_map]; exact Nat.le_refl _), List.length_map, Nat.sub_self, List.getElem?_replicate, if_pos (by omega)]
theorem rowsV_set {nx : List CW} {m : Nat} (h : nx.length < m) (q : CW) : (rowsV nx m).set nx.length q.v = rowsV (nx ++ [q]) m := by
  unfold rowsV
  obtain ⟨d, hd⟩ : ∃ d, m - nx.length = d + 1 := ⟨m - nx.length - 1, by omega⟩
  rw [List.set_append_right _ _ (by rw [List.length_map]; exact Nat.le_refl _), List.length_map, Nat.sub_self, hd, List.replicate_succ, List.set_cons_zero, List.map_append, List.length_append, List.append_assoc, show m - (nx.length + [q].length) = d by simp; omega]
  rfl
theorem rowsV_last {nx : List CW} {m : Nat} (q : CW) : (rowsV (nx ++ [q]) m)[nx.length]? = some q.v := by
  unfold rowsV
  rw [List.map_append, List.append_assoc, List.getElem?_append_right (by rw [List.length_map]; exact Nat.le_refl _), List.length_map, Nat.sub_self]
  rfl
theorem rowsV_set2 {nx : List CW} {m : Nat} (q q' : CW) : (rowsV (nx ++ [q]) m).set nx.length q'.v = rowsV (nx ++ [q']) m := by
  unfold rowsV
  rw [List.map_append, List.map_append, List.append_assoc, List.append_assoc, List.set_append_right _ _ (by rw [List.length_map]; exact Nat.le_refl _), List.length_map, Nat.sub_self, List.length_append, List.length_append]
  rfl
theorem rowsV_b (nx : List CW) (m : Nat) (q : CW) (ns : List Nd) (es : Array MapEntry) (c : Nat) : rowsV (nx ++ [q]) m = rowsV (nx ++ [⟨q.b, ns, es, c⟩]) m := by
  unfold rowsV
  rw [List.map_append, List.map_append, List.length_append, List.length_append]
  rfl
theorem rowsV_full {nx : List CW} {m : Nat} (h : nx.length = m) : rowsV nx m = nx.map CW.v := by
  unfold rowsV
  rw [h, Nat.sub_self]; simp
theorem cwV_at {ms : List CW} {k : Nat} {q : CW} (h : ms[k]? = some q) : (ms.map CW.v)[k]? = some q.v := by rw [List.getElem?_map, h]; rfl
structure FwI (f : Fmt) (cf : Int) (xs : List Nt) (j : Nat) (N : List Nd) (mn : Nat → Pr) (ms : List CW) : Prop where
  len : ms.length = j + 1
  ok : PoolOk f N mn (15 * (mostS (xs.take j) + (j : Int)))
  cr : ∀ k q, ms[k]? = some q → CrIs N q.ns q.es q.c ∧ ∀ s, s ∈ spotKs q.ns ↔ Lft f cf xs j k s
theorem FwI.start {f : Fmt} {cf : Int} {xs : List Nt} {q : PR} (h : BgI f cf 2 q.N q.mn q.ns q.es q.c) : FwI f cf xs 0 q.N q.mn [⟨q.b, q.ns, q.es, q.c⟩] := by
  refine ⟨rfl, h.ok.up (by exact Int.le_refl _), fun k p hk => ?_⟩
  cases k with
  | succ k => simp at hk
  | zero =>
    obtain rfl : (⟨q.b, q.ns, q.es, q.c⟩ : CW) = p := by simpa using hk
    refine ⟨h.cr, fun s => ?_⟩
    have e := h.eqC
    rw [begTo_two] at e
    rw [← toC_keys q.mn q.ns, e]
    exact ⟨fun hs => ⟨rfl, hs⟩, fun hs => hs.2⟩
structure FnI (f : Fmt) (cf : Int) (xs : List Nt) (j : Nat) (m : Int) (N0 : List Nd) (k : Nat) (N : List Nd) (mn : Nat → Pr) (nx : List CW) : Prop where
  len : nx.length = k
  ok : PoolOk f N mn (15 * (mostS (xs.take j) + (j : Int)) + (k : Int) * m)
  sub : ∀ y ∈ N0, y ∈ N
  cr : ∀ i q, nx[i]? = some q → CrIs N q.ns q.es q.c ∧ ∀ s, s ∈ spotKs q.ns ↔ Lft f cf xs (j + 1) i s
theorem FwI.first {f : Fmt} {cf : Int} {xs : List Nt} {j : Nat} {N : List Nd} {mn : Nat → Pr} {ms : List CW} (h : FwI f cf xs j N mn ms) (m : Int) : FnI f cf xs j m N 0 N mn [] :=
  ⟨rfl, h.ok.up (by rw [show ((0 : Nat) : Int) * m = 0 from Int.zero_mul m]; omega), fun _ h => h, fun i q hq => by simp at hq⟩
structure FmI (f : Fmt) (cf : Int) (xs : List Nt) (j : Nat) (x : Nt) (m : Int) (N0 : List Nd) (k : Nat) (nx : List CW) (N : List Nd) (mn : Nat → Pr) (q : CW) : Prop where
  ok : PoolOk f N mn (15 * (mostS (xs.take j) + (j : Int)) + ((k + 1 : Nat) : Int) * m)
  sub : ∀ y ∈ N0, y ∈ N
  old : ∀ i p, nx[i]? = some p → CrIs N p.ns p.es p.c ∧ ∀ s, s ∈ spotKs p.ns ↔ Lft f cf xs (j + 1) i s
  cr : CrIs N q.ns q.es q.c
  keys : ∀ s, s ∈ spotKs q.ns ↔ ∃ t, Lft f cf xs j k t ∧ Rel f x t s
theorem FnI.read {f : Fmt} {cf : Int} {xs : List Nt} {j : Nat} {x : Nt} {m : Int} {N0 : List Nd} {k : Nat} {N : List Nd} {mn : Nat → Pr} {nx ms : List CW} {p : CW} {mn0 : Nat → Pr} (h : FnI f cf xs j m N0 k N mn nx) (hm : m = mostN x + 1) (h0 : FwI f cf xs j N0 mn0 ms) (hp : ms[k]? = some p) {q : PR} (hr : RdOk f N mn p.ns x (15 * (mostS (xs.take j) + (j : Int)) + (k : Int) * m) q) : FmI f cf xs j x m N0 k nx q.N q.mn ⟨q.b, q.ns, q.es, q.c⟩ := by
  refine ⟨hr.ok.up ?_, fun y hy => hr.sub y (h.sub y hy), fun i p hp => ⟨(h.cr i p hp).1.up hr.sub, (h.cr i p hp).2⟩, hr.cr, fun s => ?_⟩
  · rw [show ((k + 1 : Nat) : Int) * m = (k : Int) * m + m by rw [Int.natCast_succ, Int.add_mul, Int.one_mul]]; omega
  · have h1 : s ∈ spotKs q.ns ↔ s ∈ keyC (afterC f (toC mn p.ns) x) := by
      rw [← toC_keys q.mn q.ns]; exact (hr.eqC.map _).mem_iff
    rw [h1, after_mem]
    refine ⟨fun ⟨t, ht, hx⟩ => ⟨t, ?_, hx⟩, fun ⟨t, ht, hx⟩ => ⟨t, ?_, hx⟩⟩
    · rw [toC_keys] at ht; exact ((h0.cr k p hp).2 t).1 ht
    · rw [toC_keys]; exact ((h0.cr k p hp).2 t).2 ht
theorem FnI.none {f : Fmt} {cf : Int} {xs : List Nt} {j : Nat} {x : Nt} {m : Int} {N0 : List Nd} {k : Nat} {N : List Nd} {mn : Nat → Pr} {nx : List CW} (h : FnI f cf xs j m N0 k N mn nx) (hm : 0 ≤ m) (hk : j < k) (b : Nat) : FmI f cf xs j x m N0 k nx N mn ⟨b, [], #[], 0⟩ := by
  refine ⟨h.ok.up ?_, h.sub, h.cr, CrIs.nil N, fun s => ⟨fun hs => (by cases hs), fun ⟨t, ht, _⟩ => ?_⟩⟩
  · rw [show ((k + 1 : Nat) : Int) * m = (k : Int) * m + m by rw [Int.natCast_succ, Int.add_mul, Int.one_mul]]; omega
  · have := lft_le ht; omega
structure FpI (f : Fmt) (K : Int) (N1 : List Nd) (q : CW) (N : List Nd) (mn : Nat → Pr) (ns : List Nd) (es : Array MapEntry) (c : Nat) (dn : List Nd) : Prop where
  ok : PoolOk f N mn K
  sub : ∀ y ∈ N1, y ∈ N
  cr : CrIs N ns es c
  keys : ∀ s, s ∈ spotKs ns ↔ s ∈ spotKs q.ns ∨ s ∈ spotKs dn
theorem FpI.put {f : Fmt} {K : Int} {N1 : List Nd} {q : CW} {N : List Nd} {mn : Nat → Pr} {ns : List Nd} {es : Array MapEntry} {c : Nat} {dn : List Nd} (h : FpI f K N1 q N mn ns es c dn) {x : Nd} {b : Nat} (hcp : PoolOk f (⟨b, x.s, x.bf, x.sd⟩ :: N) (upN mn b (mn x.b)) K) {es2 : Array MapEntry} {c2 : Nat} (hm : MapIs es2 (crE (putNs ns ⟨b, x.s, x.bf, x.sd⟩)) ∧ Stm es2 c2) : FpI f K N1 q (⟨b, x.s, x.bf, x.sd⟩ :: N) (putM ns (upN mn b (mn x.b)) ⟨b, x.s, x.bf, x.sd⟩) (putNs ns ⟨b, x.s, x.bf, x.sd⟩) es2 c2 (dn ++ [x]) := by
  have hup : CrIs (⟨b, x.s, x.bf, x.sd⟩ :: N) ns es c := h.cr.up fun y hy => List.mem_cons_of_mem _ hy
  refine ⟨putM_ok hcp hup.sub List.mem_cons_self, fun y hy => List.mem_cons_of_mem _ (h.sub y hy), hup.put List.mem_cons_self hm, fun s => ?_⟩
  rw [putNs_key, h.keys s]
  unfold spotKs
  rw [List.map_append, List.mem_append]
  simp only [List.map_cons, List.map_nil, List.mem_singleton, or_assoc]
theorem FnI.next {f : Fmt} {cf : Int} {xs : List Nt} {j : Nat} {x : Nt} {m : Int} {N0 : List Nd} {k : Nat} {nx : List CW} {N N1 : List Nd} {mn mn1 : Nat → Pr} {q q' : CW} (hl : nx.length = k) (hx : xs[j]? = some x) (h : FmI f cf xs j x m N0 k nx N1 mn1 q) (ok : PoolOk f N mn (15 * (mostS (xs.take j) + (j : Int)) + ((k + 1 : Nat) : Int) * m)) (sub : ∀ y ∈ N1, y ∈ N) (cr : CrIs N q'.ns q'.es q'.c) (keys : ∀ s, s ∈ spotKs q'.ns ↔ s ∈ spotKs q.ns ∨ ∃ k', k = k' + 1 ∧ Lft f cf xs j k' s) : FnI f cf xs j m N0 (k + 1) N mn (nx ++ [q']) := by
  refine ⟨by rw [List.length_append, hl]; rfl, ok, fun y hy => sub y (h.sub y hy), fun i p hp => ?_⟩
  by_cases e : i < k
  · rw [List.getElem?_append_left (by omega)] at hp
    exact ⟨(h.old i p hp).1.up sub, (h.old i p hp).2⟩
  · rw [List.getElem?_append_right (by omega)] at hp
    obtain ⟨rfl, hk⟩ : q' = p ∧ i = k := by
      cases hd : i - nx.length with
      | zero => rw [hd] at hp; exact ⟨by simpa using hp, by omega⟩
      | succ d => rw [hd] at hp; simp at hp
    subst hk
    refine ⟨cr, fun s => ?_⟩
    rw [keys s, h.keys s]
    constructor
    · rintro (⟨t, ht, hr⟩ | ⟨k', e, hs⟩)
      · exact .inl ⟨x, t, hx, ht, hr⟩
      · exact .inr ⟨k', e, hs⟩
    · rintro (⟨y, t, hy, ht, hr⟩ | ⟨k', e, hs⟩)
      · rw [hx] at hy; cases hy
        exact .inl ⟨t, ht, hr⟩
      · exact .inr ⟨k', e, hs⟩
theorem FnI.done {f : Fmt} {cf : Int} {xs : List Nt} {j : Nat} {x : Nt} {m : Int} {N0 N : List Nd} {mn : Nat → Pr} {nx : List CW} {k : Nat} (h : FnI f cf xs j m N0 k N mn nx) (hk : k = j + 2) (hx : xs[j]? = some x) (hm : m = mostN x + 1) (hm0 : 0 ≤ m) (hj : j ≤ 12) : FwI f cf xs (j + 1) N mn nx := by
  subst hk
  refine ⟨h.len, h.ok.up ?_, h.cr⟩
  rw [mostS_succ hx]
  have : ((j + 2 : Nat) : Int) * m ≤ 15 * m := Int.mul_le_mul_of_nonneg_right (by omega) hm0
  have e : 15 * (mostS (xs.take j) + mostN x + ((j + 1 : Nat) : Int)) = 15 * (mostS (xs.take j) + (j : Int)) + 15 * m := by rw [hm]; omega
  omega
theorem fst_fstC {p : Nat → Bool} {n : Nat} {j : Int} (h : Fst p n j) : j = fstC p n := by
  rcases h with ⟨k, hk, rfl, hp, ha⟩ | ⟨rfl, ha⟩ <;> rcases fstC_spec p n with ⟨g1, g2⟩ | ⟨i, hi, g1, g2, g3⟩ <;> rw [g1]
  · rw [g2 k hk] at hp; cases hp
  · have a1 : ¬ k < i := fun h => by rw [g3 k h] at hp; cases hp
    have a2 : ¬ i < k := fun h => by rw [ha i h] at g2; cases g2
    omega
  · rw [ha i hi] at g2; cases g2
theorem FwI.few {f : Fmt} {cf : Int} {xs : List Nt} {N : List Nd} {mn : Nat → Pr} {ms : List CW} (h : FwI f cf xs xs.length N mn ms) (hcf : -1 ≤ cf ∧ cf ≤ 1) {i : Int} (hi : Fst (fun k => ms[k]?.any fun q => decide (0 < q.es.size)) (xs.length + 1) i) : i = fewV f cf xs := by
  rw [fst_fstC hi]
  refine few_first hcf xs fun k => ?_
  rw [can_lft]
  cases hm : ms[k]? with
  | none =>
    have hl := List.getElem?_eq_none_iff.1 hm
    refine ⟨fun e => (by cases e), fun ⟨s, hs⟩ => ?_⟩
    have h1 := lft_le hs
    have h2 := h.len
    omega
  | some q =>
    obtain ⟨hc, hk⟩ := h.cr k q hm
    show decide (0 < q.es.size) = true ↔ _
    rw [decide_eq_true_eq, hc.size]
    constructor
    · intro hp
      cases hn : q.ns with
      | nil => rw [hn] at hp; cases hp
      | cons y l => exact ⟨y.s, (hk y.s).1 (by rw [hn]; exact List.mem_cons_self)⟩
    · rintro ⟨s, hs⟩
      obtain ⟨y, hy, _⟩ := List.mem_map.1 ((hk s).2 hs)
      exact List.length_pos_iff.2 (List.ne_nil_of_mem hy)
def fewB (f : Fmt) (cf : Int) (xs : List Nt) : Int := bif decide (chkC f cf xs = 0) then fewV f cf xs else 0
structure FZ where
  (N : List Nd) (mn : Nat → Pr) (ms : List CW) (A : Option Addr) (c j : Nat)
structure FZ2 where
  (N : List Nd) (mn : Nat → Pr) (nx : List CW) (k : Nat)
structure FZ3 where
  (N : List Nd) (mn : Nat → Pr) (q : CW)
set_option maxRecDepth 100000 in
theorem C_card_Fewest (f : Fmt) (cf : Int) (xs : List Nt) (A : Option Addr) (n c : Nat) (w : World) (h : Rd w A 4 n (encN xs)) (hn : n ≤ 9223372036854775807) (hsm : chkC f cf xs = 0 → xs.length ≤ 12 ∧ mostS xs ≤ 20) :
    C0 Try.prog 23 [.agg (cardC f cf A n c).toArray] w (.tuple #[.int .i64 (fewB f cf xs), .int .i64 (chkC f cf xs)]) := by
  have hlen : xs.length = n := by have := h.len; rwa [encN_len] at this
  refine ⟨en Try.func23 Try.ntmps23 ((St.init w).share (e := .ro A 4 n (encN xs)) h rfl rfl rfl) (h := fun F => ?_)⟩
  refine sq (h := ?_)
  refine rg (h := ?_)
  refine bxA (h := fun b0 => ?_)
  refine WL.y (hy := asg) (h := ?_)
  refine WL.y (hy := asg) (h := ?_)
  refine nl (h := ?_)
  refine q_seq (h := ?_)
  refine sq (h := ?_)
  refine sq (h := ?_)
  refine rg (h := ?_)
  refine WL.y (hy := (by first | exact ldA | exact ldEA)) (h := ?_)
  refine cl0 (hc := fun w hS => C_card_Check f cf xs A n c w (hS.get (by repeat (first | exact Rds.ro | exact Rds.own | apply Rds.there))) hn) (h := ?_)
  refine WL.y (hy := asg) (h := ?_)
  refine nl (h := ?_)
  refine q_seq (h := ?_)
  refine sq (h := ?_)
  refine rg (h := ?_)
  refine WL.y (hy := mv) (h := ?_)
  refine WL.y (hy := neq) (h := ?_)
  refine nl (h := ?_)
  refine q_seq (h := ?_)
  refine cd (by exact rfl) (fun h0 => ?_) (fun h0 => ?_)
  · skip
    have hcn : chkC f cf xs ≠ 0 := by simpa using h0
    have hB : fewB f cf xs = 0 := by rw [fewB, decide_eq_false hcn]; rfl
    refine sq (h := ?_)
    refine rg (h := ?_)
    refine WL.y (hy := mv) (h := ?_)
    refine WL.y (hy := asg) (h := ?_)
    refine WL.y (hy := asg) (h := ?_)
    refine nl (h := ?_)
    refine q_seq (h := ?_)
    refine rtn (h := ?_)
    refine q_then_ret (h := ?_)
    refine q_ret (hR := ?_)
    rw [hB]
    exact fun w hS => ⟨rfl, hS.sub (by repeat (first | exact SubL.nil | (apply SubL.cons; (repeat (first | exact At.here | apply At.there))) | exact SubL.refl _ | apply SubL.skip))⟩
  · skip
    have hcn : chkC f cf xs = 0 := by simpa using h0
    obtain ⟨hc0, hf, hcf, hl30, hmk, -⟩ := chk_facts hcn
    obtain ⟨hn12, hms⟩ := hsm hcn
    have hB : fewB f cf xs = fewV f cf xs := by rw [fewB, decide_eq_true hcn]; rfl
    refine skp (h := ?_)
    refine q_seq (h := ?_)
    refine sq (h := ?_)
    refine rg (h := ?_)
    refine WL.y (hy := (by first | exact ldA | exact ldEA)) (h := ?_)
    refine WL.y (hy := bd) (h := ?_)
    refine al (h := fun b1 => ?_)
    first | refine stA (h := ?_) | refine stEA (h := ?_)
    refine nl (h := ?_)
    refine q_seq (h := ?_)
    refine sq (h := ?_)
    refine WC.pool0 103 (fun _ => (0, 0)) ?_
    refine rg (h := ?_)
    refine WL.y (hy := (by first | exact ldA | exact ldEA)) (h := ?_)
    refine clT (hc := T_reader_begin f hf cf A n c (fun _ => (0, 0))) (h := fun q1 hq1 => ?_)
    refine bs (h := fun bR => ?_)
    refine WL.y (hy := asg) (h := ?_)
    refine WL.toRoM (b := q1.b) (es := q1.es) (c := q1.c) (by repeat (first | exact At.here | apply At.there)) ?_
    refine nl (h := ?_)
    refine q_seq (h := ?_)
    refine sq (h := ?_)
    refine sq (h := ?_)
    refine WC.nilMs ?_
    refine WC.addMs ⟨q1.b, q1.ns, q1.es, q1.c⟩ (by repeat (first | exact At.here | apply At.there)) (by repeat (first | exact At.here | apply At.there)) ?_
    refine rg (h := ?_)
    refine WL.y (hy := (by first | exact fa | exact faE)) (h := ?_)
    refine WL.y (hy := (by first | exact ld | exact ldE)) (h := ?_)
    refine WL.y (hy := lenS) (h := ?_)
    refine WL.y (hy := mv) (h := ?_)
    refine nl (h := ?_)
    refine q_seq (h := ?_)
    refine bk (h := ?_)
    refine lp (X := FZ) (I := fun z => z.j ≤ n ∧ FwI f cf xs z.j z.N z.mn z.ms) (le := fun z => [(1, .pointer (some ⟨b0, 0, none⟩)), (5, .pointer (some ⟨b1, 0, none⟩)), (6, .slice z.A (z.j + 1) z.c), (25, .slice A n c), (26, .int .i64 n), (27, .int .i64 z.j)]) (Le := fun z => [roMs z.ms, .own z.A z.c 82 1 (z.j + 1) (z.ms.map CW.v), poolE 103 z.N z.mn none, .blk b1 100 (cardC f cf A n c), .blk b0 26 (cardC f cf A n c), .ro A 4 n (encN xs)]) (μ := fun z => n - z.j) ⟨q1.N, q1.mn, [⟨q1.b, q1.ns, q1.es, q1.c⟩], some ⟨bR, 0, none⟩, 1, 0⟩ ⟨Nat.zero_le _, FwI.start hq1⟩ (by repeat (first | exact trivial | refine ⟨rfl, ?_⟩)) (by repeat (first | exact SubL.nil | (apply SubL.cons; (repeat (first | exact At.here | apply At.there))) | exact SubL.refl _ | apply SubL.skip)) (fun z hz => ?_)
    obtain ⟨hzk, hzw⟩ := hz
    refine sq (h := ?_)
    refine rg (h := ?_)
    refine WL.y (hy := lss) (h := ?_)
    refine nl (h := ?_)
    refine q_seq (h := ?_)
    refine sq (h := ?_)
    refine cd (by exact rfl) (fun h1 => ?_) (fun h1 => ?_)
    · skip
      have hjn : z.j < n := by simp only [decide_eq_true_eq] at h1; omega
      obtain ⟨x, hx⟩ : ∃ x, xs[z.j]? = some x := ⟨_, List.getElem?_eq_getElem (by omega)⟩
      have hxe := encN_at hx
      have hmx := hmk x (List.mem_of_getElem? hx)
      have hml := mostS_le hmk (z.j + 1)
      have hml0 := mostS_le hmk z.j
      rw [mostS_succ hx] at hml
      obtain ⟨m, hm⟩ : ∃ m, m = mostN x + 1 := ⟨_, rfl⟩
      have hm0 : 0 ≤ m := by have := most_bd hmx; omega
      have hzl := hzw.len
      refine skp (h := ?_)
      refine q_seq (h := ?_)
      refine sq (h := ?_)
      refine bk (h := ?_)
      refine sq (h := ?_)
      refine rg (h := ?_)
      refine WL.y (hy := ix (A := A) (m := n) (hb := by omega)) (h := ?_)
      refine WL.y (hy := ldEA (A := A) (hk := hxe)) (h := ?_)
      refine al (h := fun b2 => ?_)
      first | refine stA (h := ?_) | refine stEA (h := ?_)
      refine nl (h := ?_)
      refine q_seq (h := ?_)
      refine sq (h := ?_)
      refine rg (h := ?_)
      refine WL.y (hy := mv) (h := ?_)
      refine WL.y (hy := lenS) (h := ?_)
      refine WL.y (hy := addI (hb := by omega)) (h := ?_)
      refine mks (z.ms.length + 1) (hx := by show _ = some (Value.int .i64 _); rw [hzl]; exact rfl) (hy := by show _ = some (Value.int .i64 _); rw [hzl]; exact rfl) (h := fun bN => ?_)
      rw [← rowsV_nil]
      refine WL.y (hy := asg) (h := ?_)
      refine nl (h := ?_)
      refine q_seq (h := ?_)
      refine sq (h := ?_)
      refine sq (h := ?_)
      refine rg (h := ?_)
      refine WL.y (hy := mv) (h := ?_)
      refine WL.y (hy := lenS) (h := ?_)
      refine WL.y (hy := mv) (h := ?_)
      refine nl (h := ?_)
      refine q_seq (h := ?_)
      refine bk (h := ?_)
      refine lp (X := FZ2) (I := fun y => y.k ≤ z.ms.length + 1 ∧ FnI f cf xs z.j m z.N y.k y.N y.mn y.nx) (le := fun y => [(1, .pointer (some ⟨b0, 0, none⟩)), (5, .pointer (some ⟨b1, 0, none⟩)), (6, .slice z.A (z.j + 1) z.c), (8, .pointer (some ⟨b2, 0, none⟩)), (9, .slice (some ⟨bN, 0, none⟩) (z.ms.length + 1) (z.ms.length + 1)), (25, .slice A n c), (26, .int .i64 n), (27, .int .i64 z.j), (36, .int .i64 ((z.ms.length + 1 : Nat) : Int)), (37, .int .i64 y.k)]) (Le := fun y => [.own (some ⟨bN, 0, none⟩) (z.ms.length + 1) 82 1 (z.ms.length + 1) (rowsV y.nx (z.ms.length + 1)), poolE 103 y.N y.mn none, roMs (z.ms ++ y.nx), .own z.A z.c 82 1 (z.j + 1) (z.ms.map CW.v), .blk b2 40 x.cells, .blk b1 100 (cardC f cf A n c), .blk b0 26 (cardC f cf A n c), .ro A 4 n (encN xs)]) (μ := fun y => z.ms.length + 1 - y.k) ⟨z.N, z.mn, [], 0⟩ ⟨Nat.zero_le _, hzw.first m⟩ (by repeat (first | exact trivial | refine ⟨rfl, ?_⟩)) (by rw [List.append_nil]; exact (by repeat (first | exact SubL.nil | (apply SubL.cons; (repeat (first | exact At.here | apply At.there))) | exact SubL.refl _ | apply SubL.skip))) (fun y hy => ?_)
      obtain ⟨hyk, hyw⟩ := hy
      refine sq (h := ?_)
      refine rg (h := ?_)
      refine WL.y (hy := lss) (h := ?_)
      refine nl (h := ?_)
      refine q_seq (h := ?_)
      refine sq (h := ?_)
      refine cd (by exact rfl) (fun h2 => ?_) (fun h2 => ?_)
      · skip
        have hkm : y.k < z.ms.length + 1 := by simp only [decide_eq_true_eq] at h2; omega
        have hyl := hyw.len
        have hkb : (y.k : Int) * m ≤ 13 * m := Int.mul_le_mul_of_nonneg_right (by omega) hm0
        have hra := rowsV_at (nx := y.nx) (m := z.ms.length + 1) (by omega)
        rw [hyl] at hra
        refine skp (h := ?_)
        refine q_seq (h := ?_)
        refine sq (h := ?_)
        refine bk (h := ?_)
        refine sq (h := ?_)
        refine rg (h := ?_)
        refine WL.y (hy := mv) (h := ?_)
        refine WL.y (hy := asg) (h := ?_)
        refine nl (h := ?_)
        refine q_seq (h := ?_)
        refine sq (h := ?_)
        refine rg (h := ?_)
        refine WL.y (hy := mv) (h := ?_)
        refine WL.y (hy := mv) (h := ?_)
        refine mkm (h := fun b3 => ?_)
        refine WL.y (hy := ix (A := some ⟨bN, 0, none⟩) (m := z.ms.length + 1) (hb := by omega)) (h := ?_)
        refine stE (A := some ⟨bN, 0, none⟩) (k := y.k) (j := 0) (hk := hra) (h := ?_)
        rw [show (rowsV y.nx (z.ms.length + 1)).set y.k ([Value.map none].set 0 (.map (some b3))) = rowsV (y.nx ++ [⟨b3, [], #[], 0⟩]) (z.ms.length + 1) by rw [← rowsV_set (by omega), hyl]; rfl]
        refine nl (h := ?_)
        refine q_seq (h := ?_)
        refine ct (X := FZ3) (fun u => FmI f cf xs z.j x m z.N y.k y.nx u.N u.mn u.q) (fun _ => [(1, .pointer (some ⟨b0, 0, none⟩)), (5, .pointer (some ⟨b1, 0, none⟩)), (6, .slice z.A (z.j + 1) z.c), (8, .pointer (some ⟨b2, 0, none⟩)), (9, .slice (some ⟨bN, 0, none⟩) (z.ms.length + 1) (z.ms.length + 1)), (10, .int .i64 y.k), (25, .slice A n c), (26, .int .i64 n), (27, .int .i64 z.j), (36, .int .i64 ((z.ms.length + 1 : Nat) : Int)), (37, .int .i64 y.k)]) (fun u => [.obj u.q.b (.map u.q.es u.q.c), .own (some ⟨bN, 0, none⟩) (z.ms.length + 1) 82 1 (z.ms.length + 1) (rowsV (y.nx ++ [u.q]) (z.ms.length + 1)), poolE 103 u.N u.mn none, roMs (z.ms ++ y.nx), .own z.A z.c 82 1 (z.j + 1) (z.ms.map CW.v), .blk b2 40 x.cells, .blk b1 100 (cardC f cf A n c), .blk b0 26 (cardC f cf A n c), .ro A 4 n (encN xs)]) (h1 := ?_) (h2 := ?_)
        · skip
          refine sq (h := ?_)
          refine rg (h := ?_)
          refine WL.y (hy := mv) (h := ?_)
          refine WL.y (hy := mv) (h := ?_)
          refine WL.y (hy := lenS) (h := ?_)
          refine WL.y (hy := lss) (h := ?_)
          refine nl (h := ?_)
          refine q_seq (h := ?_)
          refine cd (by exact rfl) (fun h3 => ?_) (fun h3 => ?_)
          · skip
            have hkl : y.k < z.ms.length := by simp only [decide_eq_true_eq] at h3; omega
            obtain ⟨p, hp⟩ : ∃ p, z.ms[y.k]? = some p := ⟨_, List.getElem?_eq_getElem hkl⟩
            have hpc := hzw.cr y.k p hp
            have hpe := cwV_at hp
            refine WC.getMs p (List.mem_append_left _ (List.mem_of_getElem? hp)) (by repeat (first | exact At.here | apply At.there)) ?_
            refine rgD (by kernel_rfl) [(8, poolE 103 y.N y.mn none), (10, .own (some ⟨bN, 0, none⟩) (z.ms.length + 1) 82 1 (z.ms.length + 1) (rowsV (y.nx ++ [⟨b3, [], #[], 0⟩]) (z.ms.length + 1))), (1000000, roM p.b p.es p.c), (1000000, .own z.A z.c 82 1 (z.j + 1) (z.ms.map CW.v)), (1000000, .blk b2 40 x.cells), (1000000, .blk b1 100 (cardC f cf A n c))] (by repeat (first | exact HS.nil | (apply HS.keep; (repeat (first | exact At.here | apply At.there))) | (apply HS.ro; (repeat (first | exact Rds.ro | exact Rds.own | apply Rds.there))))) (h := ?_)
            refine tk 0 (hy := mv) (h := ?_)
            refine tk 1 (hy := mv) (h := ?_)
            refine tk 2 (hy := (by first | exact ldA | exact ldEA)) (h := ?_)
            refine tk 3 (hy := mv) (h := ?_)
            refine tk 4 (hy := mv) (h := ?_)
            refine tk 5 (hy := ix (A := z.A) (m := z.j + 1) (hb := by omega)) (h := ?_)
            refine tk 6 (hy := ldE (A := z.A) (k := y.k) (hk := hpe)) (h := ?_)
            refine tk 7 (hy := (by first | exact ldA | exact ldEA)) (h := ?_)
            refine one 8 (h := ?_)
            refine clT (hc := T_read f hf hc0 cf A n c y.N p.ns y.mn x hmx _ (by omega) hyw.ok p.b p.es p.c (hpc.1.up hyw.sub)) (h := fun q hq => ?_)
            refine nx (h := ?_)
            refine tk 9 (hy := ix (A := some ⟨bN, 0, none⟩) (m := z.ms.length + 1) (hb := by omega)) (h := ?_)
            refine one 10 (h := ?_)
            refine stE (A := some ⟨bN, 0, none⟩) (k := y.k) (j := 0) (hk := by rw [← hyl]; exact rowsV_last _) (h := ?_)
            rw [show (rowsV (y.nx ++ [⟨b3, [], #[], 0⟩]) (z.ms.length + 1)).set y.k ((CW.v ⟨b3, [], #[], 0⟩).set 0 (.map (some q.b))) = rowsV (y.nx ++ [⟨q.b, q.ns, q.es, q.c⟩]) (z.ms.length + 1) by rw [← rowsV_set2 ⟨b3, [], #[], 0⟩ ⟨q.b, q.ns, q.es, q.c⟩, hyl]; rfl]
            refine nx (h := ?_)
            refine dn (h := ?_)
            first
              | exact ctn ⟨q.N, q.mn, ⟨q.b, q.ns, q.es, q.c⟩⟩ (hyw.read hm hzw hp hq) (by repeat (first | exact trivial | refine ⟨rfl, ?_⟩)) (by repeat (first | exact SubL.nil | (apply SubL.cons; (repeat (first | exact At.here | apply At.there))) | exact SubL.refl _ | apply SubL.skip))
              | exact ctn ⟨y.N, y.mn, ⟨b3, [], #[], 0⟩⟩ (hyw.none hm0 (by omega) b3) (by repeat (first | exact trivial | refine ⟨rfl, ?_⟩)) (by repeat (first | exact SubL.nil | (apply SubL.cons; (repeat (first | exact At.here | apply At.there))) | exact SubL.refl _ | apply SubL.skip))
          · skip
            have hkl : ¬ y.k < z.ms.length := by simp only [decide_eq_false_iff_not] at h3; omega
            refine skp (h := ?_)
            first
              | exact ctn ⟨q.N, q.mn, ⟨q.b, q.ns, q.es, q.c⟩⟩ (hyw.read hm hzw hp hq) (by repeat (first | exact trivial | refine ⟨rfl, ?_⟩)) (by repeat (first | exact SubL.nil | (apply SubL.cons; (repeat (first | exact At.here | apply At.there))) | exact SubL.refl _ | apply SubL.skip))
              | exact ctn ⟨y.N, y.mn, ⟨b3, [], #[], 0⟩⟩ (hyw.none hm0 (by omega) b3) (by repeat (first | exact trivial | refine ⟨rfl, ?_⟩)) (by repeat (first | exact SubL.nil | (apply SubL.cons; (repeat (first | exact At.here | apply At.there))) | exact SubL.refl _ | apply SubL.skip))
        rintro u hum
        have hlast := rowsV_last (nx := y.nx) (m := z.ms.length + 1) u.q
        rw [hyl] at hlast
        refine sq (h := ?_)
        refine rg (h := ?_)
        refine WL.y (hy := mv) (h := ?_)
        refine WL.y (hy := gtr) (h := ?_)
        refine nl (h := ?_)
        refine q_seq (h := ?_)
        refine cd (by exact rfl) (fun h4 => ?_) (fun h4 => ?_)
        · skip
          have hk0 : 0 < y.k := by simp only [decide_eq_true_eq] at h4; omega
          obtain ⟨p, hp⟩ : ∃ p, z.ms[y.k - 1]? = some p := ⟨_, List.getElem?_eq_getElem (by omega)⟩
          have hpc := hzw.cr (y.k - 1) p hp
          have hpe := cwV_at hp
          have hpn : CrIs u.N p.ns p.es p.c := hpc.1.up hum.sub
          refine sq (h := ?_)
          refine WC.getMs p (List.mem_append_left _ (List.mem_of_getElem? hp)) (by repeat (first | exact At.here | apply At.there)) ?_
          refine rg (h := ?_)
          refine WL.y (hy := mv) (h := ?_)
          refine WL.y (hy := mv) (h := ?_)
          refine WL.y (hy := subI (hb := by omega)) (h := ?_)
          refine WL.y (hy := ix (A := z.A) (m := z.j + 1) (hb := by omega)) (h := ?_)
          refine WL.y (hy := ldE (A := z.A) (k := y.k - 1) (hx := by rw [show y.k - 1 = ((y.k : Int) - 1).toNat by omega]; exact rfl) (hk := hpe)) (h := ?_)
          refine rngM (b := p.b) (es := p.es) (c := p.c) (h := fun r1 => ?_)
          rw [cr_kv hpc.1]
          refine nl (h := ?_)
          refine q_seq (h := ?_)
          refine bk (h := ?_)
          refine lp (X := MZ2) (I := fun v => FpI f (15 * (mostS (xs.take z.j) + (z.j : Int)) + ((y.k + 1 : Nat) : Int) * m) u.N u.q v.N v.mn v.ns v.es v.c v.dn ∧ (v.dn ++ v.ts).Perm p.ns ∧ v.tk.Perm (v.ts.map ndKV)) (le := fun v => [(1, .pointer (some ⟨b0, 0, none⟩)), (5, .pointer (some ⟨b1, 0, none⟩)), (6, .slice z.A (z.j + 1) z.c), (8, .pointer (some ⟨b2, 0, none⟩)), (9, .slice (some ⟨bN, 0, none⟩) (z.ms.length + 1) (z.ms.length + 1)), (10, .int .i64 y.k), (25, .slice A n c), (26, .int .i64 n), (27, .int .i64 z.j), (36, .int .i64 ((z.ms.length + 1 : Nat) : Int)), (37, .int .i64 y.k), (65, .pointer (some ⟨r1, 0, none⟩))]) (Le := fun v => [itE r1 p.b p.es p.c v.tk v.o, .obj u.q.b (.map v.es v.c), .own (some ⟨bN, 0, none⟩) (z.ms.length + 1) 82 1 (z.ms.length + 1) (rowsV (y.nx ++ [u.q]) (z.ms.length + 1)), poolE 103 v.N v.mn none, roM p.b p.es p.c, roMs (z.ms ++ y.nx), .own z.A z.c 82 1 (z.j + 1) (z.ms.map CW.v), .blk b2 40 x.cells, .blk b1 100 (cardC f cf A n c), .blk b0 26 (cardC f cf A n c), .ro A 4 n (encN xs)]) (μ := fun v => v.ts.length) ⟨u.N, u.mn, u.q.ns, u.q.es, u.q.c, [], p.ns, p.ns.map ndKV, none⟩ ⟨⟨hum.ok, fun _ h => h, hum.cr, fun s => ⟨.inl, fun h => h.elim id fun h => (by cases h)⟩⟩, .refl _, .refl _⟩ (by repeat (first | exact trivial | refine ⟨rfl, ?_⟩)) (by repeat (first | exact SubL.nil | (apply SubL.cons; (repeat (first | exact At.here | apply At.there))) | exact SubL.refl _ | apply SubL.skip)) (fun v hv0 => ?_)
          obtain ⟨hvm, hvd, hvt⟩ := hv0
          refine sq (h := ?_)
          refine rg (h := ?_)
          refine nxtM (b := p.b) (es := p.es) (c := p.c) (hs := hpc.1.s) (h := fun o2 tk2 ho2 => ?_)
          refine WL.y (hy := exN) (h := ?_)
          refine nl (h := ?_)
          refine q_seq (h := ?_)
          refine sq (h := ?_)
          refine cd (by exact rfl) (fun h5 => ?_) (fun h5 => ?_)
          · skip
            obtain ⟨kv, rfl⟩ := Option.isSome_iff_exists.1 h5
            rcases todo_nd hvt ho2 with ⟨e, _⟩ | ⟨x1, ts', e, hts, htk⟩
            · cases e
            obtain rfl := Option.some.inj e
            have hxn : x1 ∈ p.ns := hvd.subset (List.mem_append.2 (.inr (hts.symm.subset List.mem_cons_self)))
            have hxN : x1 ∈ v.N := hvm.sub x1 (hpn.sub x1 hxn)
            refine skp (h := ?_)
            refine q_seq (h := ?_)
            refine bk (h := ?_)
            refine sq (h := ?_)
            refine rg (h := ?_)
            refine WL.y (hy := entM (b := p.b) (es := p.es) (c := p.c) (hs := hpc.1.s)) (h := ?_)
            refine WL.y (hy := ex) (h := ?_)
            refine WL.y (hy := asg) (h := ?_)
            refine nl (h := ?_)
            refine q_seq (h := ?_)
            refine sq (h := ?_)
            refine rg (h := ?_)
            refine WL.y (hy := mv) (h := ?_)
            refine WL.y (hy := nck) (h := ?_)
            refine WL.y (hy := ldQA (hy := hxN)) (h := ?_)
            refine al (h := fun b4 => ?_)
            first | refine stA (h := ?_) | refine stEA (h := ?_)
            refine nl (h := ?_)
            refine q_seq (h := ?_)
            refine WC.pNew ⟨b4, x1.s, x1.bf, x1.sd⟩ (v.mn x1.b) .here (by repeat (first | exact At.here | apply At.there)) (fun hne => ?_)
            have hcp := hvm.ok.copy (y := ⟨b4, x1.s, x1.bf, x1.sd⟩) hxN hne rfl rfl rfl
            refine rg (h := ?_)
            refine WL.y (hy := mv) (h := ?_)
            refine WL.y (hy := mv) (h := ?_)
            refine WL.y (hy := ix (A := some ⟨bN, 0, none⟩) (m := z.ms.length + 1) (hb := by omega)) (h := ?_)
            refine WL.y (hy := ldE (A := some ⟨bN, 0, none⟩) (k := y.k) (hk := hlast)) (h := ?_)
            refine clT (hc := T_put (⟨b4, x1.s, x1.bf, x1.sd⟩ :: v.N) v.ns (upN v.mn b4 (v.mn x1.b)) ⟨b4, x1.s, x1.bf, x1.sd⟩ u.q.b v.es v.c hvm.cr.m hvm.cr.s hcp.nd (fun y hy => (hcp.ok y hy).len hf) (fun y hy => List.mem_cons_of_mem _ (hvm.cr.sub y hy)) List.mem_cons_self) (h := fun q hq => ?_)
            have hcy := hvm.put hcp hq
            refine nl (h := ?_)
            refine q_blk_norm (h := ?_)
            refine rn (x := v) ⟨⟨b4, x1.s, x1.bf, x1.sd⟩ :: v.N, putM v.ns (upN v.mn b4 (v.mn x1.b)) ⟨b4, x1.s, x1.bf, x1.sd⟩, putNs v.ns ⟨b4, x1.s, x1.bf, x1.sd⟩, q.1, q.2, v.dn ++ [x1], ts', tk2, some (ndKV x1)⟩ ⟨hcy, by rw [List.append_assoc]; exact ((List.Perm.append_left v.dn hts.symm)).trans hvd, htk⟩ (by have := hts.length_eq; rw [List.length_cons] at this; dsimp only; omega) (by repeat (first | exact trivial | refine ⟨rfl, ?_⟩)) (by repeat (first | exact SubL.nil | (apply SubL.cons; (repeat (first | exact At.here | apply At.there))) | exact SubL.refl _ | apply SubL.skip))
          · skip
            have ho3 : o2 = none := by simpa using h5
            have hts : v.ts = [] := by
              rcases todo_nd hvt ho2 with ⟨_, h9, _⟩ | ⟨x1, ts', e, _⟩
              · exact h9
              · rw [ho3] at e; cases e
            have hdn : v.dn.Perm p.ns := by rw [hts, List.append_nil] at hvd; exact hvd
            have hnx := FnI.next (q' := ⟨u.q.b, v.ns, v.es, v.c⟩) hyl hx hum hvm.ok hvm.sub hvm.cr (fun s => by
              rw [hvm.keys s, show (s ∈ spotKs v.dn ↔ s ∈ spotKs p.ns) from (hdn.map _).mem_iff, hpc.2 s]
              exact ⟨fun h9 => h9.imp id fun h8 => ⟨y.k - 1, by omega, h8⟩, fun h9 => h9.imp id fun ⟨k', e, h8⟩ => by rw [show y.k - 1 = k' by omega]; exact h8⟩)
            refine et (h := ?_)
            refine q_then_exit (h := ?_)
            refine q_then_exit (h := ?_)
            refine q_blk_hit (h := ?_)
            refine q_blk_norm (h := ?_)
            refine q_seq (h := ?_)
            first
              | refine WC.toRoM (b := u.q.b) (es := v.es) (c := v.c) (by repeat (first | exact At.here | apply At.there)) (WC.addMs ⟨u.q.b, v.ns, v.es, v.c⟩ (by repeat (first | exact At.here | apply At.there)) (by repeat (first | exact At.here | apply At.there)) ?_)
              | refine WC.toRoM (b := u.q.b) (es := u.q.es) (c := u.q.c) (by repeat (first | exact At.here | apply At.there)) (WC.addMs u.q (by repeat (first | exact At.here | apply At.there)) (by repeat (first | exact At.here | apply At.there)) ?_)
            rw [List.append_assoc]
            try rw [rowsV_b y.nx _ u.q v.ns v.es v.c]
            refine rg (h := ?_)
            refine WL.y (hy := addI) (h := ?_)
            refine WL.y (hy := mv) (h := ?_)
            refine nl (h := ?_)
            first
              | (refine rn (x := y) ⟨v.N, v.mn, y.nx ++ [⟨u.q.b, v.ns, v.es, v.c⟩], y.k + 1⟩ ⟨by dsimp only; omega, hnx⟩ (by dsimp only; omega) (by repeat (first | exact trivial | refine ⟨rfl, ?_⟩)) (by repeat (first | exact SubL.nil | (apply SubL.cons; (repeat (first | exact At.here | apply At.there))) | exact SubL.refl _ | apply SubL.skip)))
              | (refine rn (x := y) ⟨u.N, u.mn, y.nx ++ [u.q], y.k + 1⟩ ⟨by dsimp only; omega, hnx⟩ (by dsimp only; omega) (by repeat (first | exact trivial | refine ⟨rfl, ?_⟩)) (by repeat (first | exact SubL.nil | (apply SubL.cons; (repeat (first | exact At.here | apply At.there))) | exact SubL.refl _ | apply SubL.skip)))
        · skip
          have hk0 : y.k = 0 := by simp only [decide_eq_false_iff_not] at h4; omega
          have hnx := FnI.next (q' := u.q) hyl hx hum hum.ok (fun _ h => h) hum.cr (fun s => ⟨.inl, fun h9 => h9.elim id fun ⟨k', e, _⟩ => by omega⟩)
          refine skp (h := ?_)
          refine q_blk_norm (h := ?_)
          refine q_seq (h := ?_)
          first
            | refine WC.toRoM (b := u.q.b) (es := v.es) (c := v.c) (by repeat (first | exact At.here | apply At.there)) (WC.addMs ⟨u.q.b, v.ns, v.es, v.c⟩ (by repeat (first | exact At.here | apply At.there)) (by repeat (first | exact At.here | apply At.there)) ?_)
            | refine WC.toRoM (b := u.q.b) (es := u.q.es) (c := u.q.c) (by repeat (first | exact At.here | apply At.there)) (WC.addMs u.q (by repeat (first | exact At.here | apply At.there)) (by repeat (first | exact At.here | apply At.there)) ?_)
          rw [List.append_assoc]
          try rw [rowsV_b y.nx _ u.q v.ns v.es v.c]
          refine rg (h := ?_)
          refine WL.y (hy := addI) (h := ?_)
          refine WL.y (hy := mv) (h := ?_)
          refine nl (h := ?_)
          first
            | (refine rn (x := y) ⟨v.N, v.mn, y.nx ++ [⟨u.q.b, v.ns, v.es, v.c⟩], y.k + 1⟩ ⟨by dsimp only; omega, hnx⟩ (by dsimp only; omega) (by repeat (first | exact trivial | refine ⟨rfl, ?_⟩)) (by repeat (first | exact SubL.nil | (apply SubL.cons; (repeat (first | exact At.here | apply At.there))) | exact SubL.refl _ | apply SubL.skip)))
            | (refine rn (x := y) ⟨u.N, u.mn, y.nx ++ [u.q], y.k + 1⟩ ⟨by dsimp only; omega, hnx⟩ (by dsimp only; omega) (by repeat (first | exact trivial | refine ⟨rfl, ?_⟩)) (by repeat (first | exact SubL.nil | (apply SubL.cons; (repeat (first | exact At.here | apply At.there))) | exact SubL.refl _ | apply SubL.skip)))
      · skip
        have hkm : y.k = z.j + 2 := by simp only [decide_eq_false_iff_not] at h2; omega
        have hfw := hyw.done hkm hx hm hm0 (by omega)
        have hyl := hyw.len
        have hrf := rowsV_full (nx := y.nx) (m := z.ms.length + 1) (by omega)
        refine et (h := ?_)
        refine q_then_exit (h := ?_)
        refine q_then_exit (h := ?_)
        refine q_blk_hit (h := ?_)
        refine q_seq (h := ?_)
        refine WC.subMs y.nx (fun q hq => List.mem_append_right _ hq) (by repeat (first | exact At.here | apply At.there)) ?_
        rw [hrf]
        refine rg (h := ?_)
        refine WL.y (hy := mv) (h := ?_)
        refine WL.y (hy := asg) (h := ?_)
        refine nl (h := ?_)
        refine q_blk_norm (h := ?_)
        refine q_seq (h := ?_)
        refine rg (h := ?_)
        refine WL.y (hy := addI) (h := ?_)
        refine WL.y (hy := mv) (h := ?_)
        refine nl (h := ?_)
        refine rn (x := z) ⟨y.N, y.mn, y.nx, some ⟨bN, 0, none⟩, z.ms.length + 1, z.j + 1⟩ ⟨by dsimp only; omega, hfw⟩ (by dsimp only; omega) (by rw [hzl]; exact (by repeat (first | exact trivial | refine ⟨rfl, ?_⟩))) (by rw [hzl]; exact (by repeat (first | exact SubL.nil | (apply SubL.cons; (repeat (first | exact At.here | apply At.there))) | exact SubL.refl _ | apply SubL.skip)))
    · skip
      have hjn : z.j = n := by simp only [decide_eq_false_iff_not] at h1; omega
      have hzl := hzw.len
      rw [hjn, ← hlen] at hzw
      refine et (h := ?_)
      refine q_then_exit (h := ?_)
      refine q_then_exit (h := ?_)
      refine q_blk_hit (h := ?_)
      refine q_seq (h := ?_)
      refine sq (h := ?_)
      refine rg (h := ?_)
      refine WL.y (hy := mv) (h := ?_)
      refine clT (hc := T_IndexC z.A (z.j + 1) z.c z.ms hzl (by omega)) (h := fun i hi => ?_)
      have hE : i = fewV f cf xs := hzw.few hcf (by rw [hlen, ← hjn]; exact hi)
      subst hE
      refine WL.y (hy := asg) (h := ?_)
      refine WL.y (hy := asg) (h := ?_)
      refine nl (h := ?_)
      refine q_seq (h := ?_)
      refine rtn (h := ?_)
      refine q_ret (hR := ?_)
      rw [hB]
      exact fun w hS => ⟨by rw [hcn]; rfl, hS.sub (by repeat (first | exact SubL.nil | (apply SubL.cons; (repeat (first | exact At.here | apply At.there))) | exact SubL.refl _ | apply SubL.skip))⟩
end Go.Proofs.Ytncoimjgjpcipaa

namespace Go.Proofs.Ytncoimjgjpcipaa
open Go Go.RowKit

theorem Rdy.sm {f : Fmt} {cf : Int} {xs : List Nt} (h : Rdy f cf xs) : chkC f cf xs = 0 → xs.length ≤ 12 ∧ mostS xs ≤ 20 := fun _ => ⟨h.n, h.m⟩
theorem Rdy.few {f : Fmt} {cf : Int} {xs : List Nt} (h : Rdy f cf xs) : fewB f cf xs = fewV f cf xs := by rw [fewB, decide_eq_true h.c]; rfl
section rules
variable {F : Fence} {P : Program} {n : Nat} {D : List Deferred} {l : Env} {w0 : World} {L : List Ent}
end rules
end Go.Proofs.Ytncoimjgjpcipaa

namespace Go.Proofs.Ytncoimjgjpcipaa
open Go Go.RowKit

section
variable {f : Fmt} {cf : Int} {xs : List Nt}
end
end Go.Proofs.Ytncoimjgjpcipaa

namespace Go.Proofs.Ytncoimjgjpcipaa
open Go Go.RowKit

structure BtOk (f : Fmt) (cf : Int) (xs : List Nt) (q : BDR) : Prop where
  no : posE f cf xs ≠ 0 → q.zs = []
  yes : posE f cf xs = 0 → q.zs.map (·.b) = boardsC (keyC (crowdC f cf xs))
  sm : ∀ x ∈ q.zs, BrdSm x.b
  len : q.zs.length ≤ 4194304
theorem St.nilOwn {w0 w : World} {L : List Ent} (h : St w0 w L) (T : TypeId) (size : Nat) : St w0 w (.own none 0 T size 0 [] :: L) := by
  refine St.add (M := [_]) h (Blw.refl _ _) (fun e he => ?_) (fun e he b hb' => ?_) (List.pairwise_singleton _ _)
  · simp only [List.mem_singleton] at he; subst he; exact ⟨World.ownsRow_nil w 0 T size, Rd.nil w none size⟩
  · simp only [List.mem_singleton] at he; subst he; obtain ⟨ad, had, _⟩ := hb'; cases had
theorem C_card_BoardsT (f : Fmt) (cf : Int) (xs : List Nt) (A : Option Addr) (n c : Nat) (w : World) (h : Rd w A 4 n (encN xs)) (hn : n ≤ 9223372036854775807) (hsm : chkC f cf xs = 0 → mostS xs ≤ 400) (hbig : (crowdC f cf xs).length ≤ 4194304) :
    CR Try.prog 14 [.agg (cardC f cf A n c).toArray] w (BtOk f cf xs) (fun q => .tuple #[.slice q.A q.zs.length q.c, .int .i64 (posE f cf xs)]) (fun q => [.own q.A q.c 44 5 q.zs.length (encX q.zs), manyE true (q.zs.map rowX)]) := by
  refine ⟨Calls.mono (C_card_Boards f cf xs A n c w h hn hsm hbig).out fun e w' ⟨o, ho, he, hs⟩ => ?_⟩
  cases o with
  | none => exact ⟨⟨[], none, 0⟩, ⟨fun _ => rfl, fun h0 => absurd h0 ho, fun x hx => (by cases hx), Nat.zero_le _⟩, he, (St.many0 hs).nilOwn _ _⟩
  | some q => exact ⟨q, ⟨fun h0 => absurd ho.1 h0, fun _ => ho.2.1, ho.2.2.1, ho.2.2.2⟩, he, hs⟩
end Go.Proofs.Ytncoimjgjpcipaa

namespace Go.Proofs.Ytncoimjgjpcipaa
open Go Go.RowKit

section rules
variable {F : Fence} {P : Program} {ops : Array Oper} {Q : Exit → Act → World → Prop} {rest : List Oper} {n : Nat} {D : List Deferred} {l : Env} {w0 : World} {L M : List Ent}
end rules
structure RU where
  (sA gA : Option Addr) (sc gc : Nat) (U : List Row)
structure PtU (U : List Row) (r : RS) (x : RU) : Prop where
  sub : ∀ r ∈ U, r ∈ x.U
  s : (⟨x.sA, 2, r.st.length, encP r.st⟩ : Row) ∈ x.U
  g : (⟨x.gA, 7, r.gs.length, encG r.gs⟩ : Row) ∈ x.U
end Go.Proofs.Ytncoimjgjpcipaa

namespace Go.Proofs.Ytncoimjgjpcipaa
open Go Go.RowKit

def tstV (s : Sc) (x : Nt) : Bool := bif decide (x.kind = 3) then decide (s.p = x.pair) else bif decide (x.kind = 4) then decide (s.g = x.pair) && decide (s.p = (0, 0)) else
  bif decide (x.kind = 5) then decide (wonV s.st = x.pair) && (decide (s.g = (0, 0)) && decide (s.p = (0, 0))) else bif decide (x.kind = 6) then decide (0 ≤ s.server) && decide (s.server % 2 = x.side) else bif decide (x.kind = 7) then decide (s.winner = x.side) else false
set_option maxRecDepth 100000 in
theorem C_ref3_True (s : Sc) (A : Option Addr) (c : Nat) (x : Nt) (w : World) (h : Rd w A 2 s.st.length (encP s.st)) (hn : s.st.length ≤ 1000000) : C0 Try.prog 20 [s.val A c, x.val] w (.bool (tstV s x)) := by
  refine ⟨en Try.func20 Try.ntmps20 ((St.init w).share (e := .ro A 2 s.st.length (encP s.st)) h rfl rfl rfl) (h := fun F => ?_)⟩
  refine sq (h := ?_)
  refine rg (h := ?_)
  refine bxA (h := fun b0 => ?_)
  refine bxA (h := fun b1 => ?_)
  refine WL.y (hy := asg) (h := ?_)
  refine WL.cut (by repeat (first | exact Cut.nil | apply Cut.hit | apply Cut.miss (by exact rfl))) ?_
  refine nl (h := ?_)
  refine q_seq (h := ?_)
  refine sq (h := ?_)
  refine rg (h := ?_)
  refine WL.y (hy := (by first | exact fa | exact faE)) (h := ?_)
  refine WL.y (hy := (by first | exact ldA | exact ldEA)) (h := ?_)
  refine al (h := fun b2 => ?_)
  first | refine stA (h := ?_) | refine stEA (h := ?_)
  refine nl (h := ?_)
  refine q_seq (h := ?_)
  refine sq (h := ?_)
  refine rg (h := ?_)
  refine WL.y (hy := (by first | exact fa | exact faE)) (h := ?_)
  refine WL.y (hy := (by first | exact ldA | exact ldEA)) (h := ?_)
  refine WL.y (hy := bd) (h := ?_)
  refine WL.y (hy := eqlT) (h := ?_)
  refine WL.y (hy := asg) (h := ?_)
  refine nl (h := ?_)
  refine q_seq (h := ?_)
  refine sq (h := ?_)
  refine sq (h := ?_)
  refine rg (h := ?_)
  refine WL.y (hy := (by first | exact fa | exact faE)) (h := ?_)
  refine WL.y (hy := (by first | exact ld | exact ldE)) (h := ?_)
  refine nl (h := ?_)
  refine q_seq (h := ?_)
  refine bk (h := ?_)
  refine sq (h := ?_)
  refine rg (h := ?_)
  refine WL.y (hy := eql) (h := ?_)
  refine WL.y (hy := asg) (h := ?_)
  refine nl (h := ?_)
  refine q_seq (h := ?_)
  refine cd (by exact rfl) (fun h0 => ?_) (fun h0 => ?_)
  · skip
    have k3 : x.kind = 3 := of_decide_eq_true h0
    refine sq (h := ?_)
    refine rg (h := ?_)
    refine WL.y (hy := (by first | exact fa | exact faE)) (h := ?_)
    refine WL.y (hy := (by first | exact ldA | exact ldEA)) (h := ?_)
    refine WL.y (hy := (by first | exact fa | exact faE)) (h := ?_)
    refine WL.y (hy := (by first | exact ldA | exact ldEA)) (h := ?_)
    refine WL.y (hy := eqlT) (h := ?_)
    refine WL.y (hy := asg) (h := ?_)
    refine WL.cut (by repeat (first | exact Cut.nil | apply Cut.hit | apply Cut.miss (by exact rfl))) ?_
    refine nl (h := ?_)
    refine q_seq (h := ?_)
    refine rtn (h := ?_)
    refine q_blk_ret (h := ?_)
    refine q_then_ret (h := ?_)
    refine q_ret (hR := ?_)
    refine fun w hS => ⟨?_, hS.sub (by repeat (first | exact SubL.nil | (apply SubL.cons; (repeat (first | exact At.here | apply At.there))) | exact SubL.refl _ | apply SubL.skip))⟩
    clear hS
    clear h
    simp_all [tstV, Prod.ext_iff, resV, Bool.and_assoc]
  · skip
    have k3 : ¬ x.kind = 3 := of_decide_eq_false h0
    refine sq (h := ?_)
    refine rg (h := ?_)
    refine WL.y (hy := eql) (h := ?_)
    refine WL.y (hy := asg) (h := ?_)
    refine nl (h := ?_)
    refine q_seq (h := ?_)
    refine cd (by exact rfl) (fun h1 => ?_) (fun h1 => ?_)
    · skip
      have k4 : x.kind = 4 := of_decide_eq_true h1
      refine sq (h := ?_)
      refine rg (h := ?_)
      refine WL.y (hy := (by first | exact fa | exact faE)) (h := ?_)
      refine WL.y (hy := (by first | exact ldA | exact ldEA)) (h := ?_)
      refine WL.y (hy := (by first | exact fa | exact faE)) (h := ?_)
      refine WL.y (hy := (by first | exact ldA | exact ldEA)) (h := ?_)
      refine WL.y (hy := eqlT) (h := ?_)
      refine WL.y (hy := mv) (h := ?_)
      apply brAnd 2 29 31 (by exact rfl)
      · intro hb2
        refine un (h := ?_)
        refine WL.y (hy := mv) (h := ?_)
        refine WL.y (hy := (by first | exact pkT | exact pkF)) (h := ?_)
        exact mg (by repeat (first | exact trivial | refine ⟨rfl, ?_⟩ | refine ⟨by rw [hb2]; rfl, ?_⟩)) (by repeat (first | exact SubL.nil | (apply SubL.cons; (repeat (first | exact At.here | apply At.there))) | exact SubL.refl _ | apply SubL.skip))
      · intro hb2
        repeat (first | refine un (h := ?_) | refine sk (h := ?_) | refine WL.y (hy := pkF) (h := ?_) | refine WL.y (hy := pkT) (h := ?_))
        exact mg (by repeat (first | exact trivial | refine ⟨rfl, ?_⟩ | refine ⟨by rw [hb2]; rfl, ?_⟩)) (by repeat (first | exact SubL.nil | (apply SubL.cons; (repeat (first | exact At.here | apply At.there))) | exact SubL.refl _ | apply SubL.skip))
      refine WL.y (hy := asg) (h := ?_)
      refine WL.cut (by repeat (first | exact Cut.nil | apply Cut.hit | apply Cut.miss (by exact rfl))) ?_
      refine nl (h := ?_)
      refine q_seq (h := ?_)
      refine rtn (h := ?_)
      refine q_blk_ret (h := ?_)
      refine q_then_ret (h := ?_)
      refine q_ret (hR := ?_)
      refine fun w hS => ⟨?_, hS.sub (by repeat (first | exact SubL.nil | (apply SubL.cons; (repeat (first | exact At.here | apply At.there))) | exact SubL.refl _ | apply SubL.skip))⟩
      clear hS
      clear h
      simp_all [tstV, Prod.ext_iff, resV, Bool.and_assoc]
    · skip
      have k4 : ¬ x.kind = 4 := of_decide_eq_false h1
      refine sq (h := ?_)
      refine rg (h := ?_)
      refine WL.y (hy := eql) (h := ?_)
      refine WL.y (hy := asg) (h := ?_)
      refine nl (h := ?_)
      refine q_seq (h := ?_)
      refine cd (by exact rfl) (fun h3 => ?_) (fun h3 => ?_)
      · skip
        have k5 : x.kind = 5 := of_decide_eq_true h3
        refine sq (h := ?_)
        refine rgD (by kernel_rfl) [(1000000, .blk b0 55 (s.cells A c)), (1000000, .blk b1 40 x.cells), (1000000, .blk b2 44 [.slice A s.st.length c, .int .i64 s.g.1, .int .i64 s.g.2, .int .i64 s.p.1, .int .i64 s.p.2])] (by repeat (first | exact HS.nil | (apply HS.keep; (repeat (first | exact At.here | apply At.there))) | (apply HS.ro; (repeat (first | exact Rds.ro | exact Rds.own | apply Rds.there))))) (h := ?_)
        refine tk 0 (hy := (by first | exact fa | exact faE)) (h := ?_)
        refine tk 1 (hy := (by first | exact ld | exact ldE)) (h := ?_)
        refine tk 3 (hy := (by first | exact fa | exact faE)) (h := ?_)
        refine tk 4 (hy := (by first | exact ldA | exact ldEA)) (h := ?_)
        refine one 2 (h := ?_)
        refine cl0 (hc := fun w hS => C_ref1_Won s.st A s.st.length c w (hS.get (by repeat (first | exact Rds.ro | exact Rds.own | apply Rds.there))) hn) (h := ?_)
        refine nx (h := ?_)
        refine tk 5 (hy := eqlT) (h := ?_)
        refine tk 6 (hy := mv) (h := ?_)
        refine brH (g := 40) (by exact rfl) (fun hb4 => ?_) (fun hb4 => ?_)
        · skip
          refine tk 7 (hy := (by first | exact fa | exact faE)) (h := ?_)
          refine tk 8 (hy := (by first | exact ldA | exact ldEA)) (h := ?_)
          refine tk 9 (hy := bd) (h := ?_)
          refine tk 10 (hy := eqlT) (h := ?_)
          refine tk 11 (hy := (by first | exact pkT | exact pkF)) (h := ?_)
          refine tk 12 (hy := mv) (h := ?_)
          refine brH (g := 46) (by exact rfl) (fun hb5 => ?_) (fun hb5 => ?_)
          · skip
            refine tk 13 (hy := mv) (h := ?_)
            refine tk 14 (hy := (by first | exact pkT | exact pkF)) (h := ?_)
            refine tk 15 (hy := asg) (h := ?_)
            refine dn (h := ?_)
            refine q_seq (h := ?_)
            refine rtn (h := ?_)
            refine q_blk_ret (h := ?_)
            refine q_then_ret (h := ?_)
            refine q_ret (hR := ?_)
            refine fun w hS => ⟨?_, hS.sub (by repeat (first | exact SubL.nil | (apply SubL.cons; (repeat (first | exact At.here | apply At.there))) | exact SubL.refl _ | apply SubL.skip))⟩
            clear hS
            clear h
            simp_all [tstV, Prod.ext_iff, resV, Bool.and_assoc]
          · skip
            refine tkS 13 (h := ?_)
            refine tk 14 (hy := (by first | exact pkT | exact pkF)) (h := ?_)
            refine tk 15 (hy := asg) (h := ?_)
            refine dn (h := ?_)
            refine q_seq (h := ?_)
            refine rtn (h := ?_)
            refine q_blk_ret (h := ?_)
            refine q_then_ret (h := ?_)
            refine q_ret (hR := ?_)
            refine fun w hS => ⟨?_, hS.sub (by repeat (first | exact SubL.nil | (apply SubL.cons; (repeat (first | exact At.here | apply At.there))) | exact SubL.refl _ | apply SubL.skip))⟩
            clear hS
            clear h
            simp_all [tstV, Prod.ext_iff, resV, Bool.and_assoc]
        · skip
          refine tkS 7 (h := ?_)
          refine tkS 8 (h := ?_)
          refine tkS 9 (h := ?_)
          refine tkS 10 (h := ?_)
          refine tk 11 (hy := (by first | exact pkT | exact pkF)) (h := ?_)
          refine tk 12 (hy := mv) (h := ?_)
          refine tkS 13 (h := ?_)
          refine tk 14 (hy := (by first | exact pkT | exact pkF)) (h := ?_)
          refine tk 15 (hy := asg) (h := ?_)
          refine dn (h := ?_)
          refine q_seq (h := ?_)
          refine rtn (h := ?_)
          refine q_blk_ret (h := ?_)
          refine q_then_ret (h := ?_)
          refine q_ret (hR := ?_)
          refine fun w hS => ⟨?_, hS.sub (by repeat (first | exact SubL.nil | (apply SubL.cons; (repeat (first | exact At.here | apply At.there))) | exact SubL.refl _ | apply SubL.skip))⟩
          clear hS
          clear h
          simp_all [tstV, Prod.ext_iff, resV, Bool.and_assoc]
      · skip
        have k5 : ¬ x.kind = 5 := of_decide_eq_false h3
        refine sq (h := ?_)
        refine rg (h := ?_)
        refine WL.y (hy := eql) (h := ?_)
        refine WL.y (hy := asg) (h := ?_)
        refine nl (h := ?_)
        refine q_seq (h := ?_)
        refine cd (by exact rfl) (fun h6 => ?_) (fun h6 => ?_)
        · skip
          have k6 : x.kind = 6 := of_decide_eq_true h6
          refine sq (h := ?_)
          refine rg (h := ?_)
          refine WL.y (hy := (by first | exact fa | exact faE)) (h := ?_)
          refine WL.y (hy := (by first | exact ld | exact ldE)) (h := ?_)
          refine WL.y (hy := geq) (h := ?_)
          refine WL.y (hy := mv) (h := ?_)
          apply brAnd 7 54 61 (by exact rfl)
          · intro hb7
            have hs0 : 0 ≤ s.server := of_decide_eq_true hb7
            refine un (h := ?_)
            refine WL.y (hy := (by first | exact fa | exact faE)) (h := ?_)
            refine un (h := ?_)
            refine WL.y (hy := (by first | exact ld | exact ldE)) (h := ?_)
            refine un (h := ?_)
            refine WL.y (hy := remI) (h := ?_)
            refine un (h := ?_)
            refine WL.y (hy := (by first | exact fa | exact faE)) (h := ?_)
            refine un (h := ?_)
            refine WL.y (hy := (by first | exact ld | exact ldE)) (h := ?_)
            refine un (h := ?_)
            refine WL.y (hy := eql) (h := ?_)
            refine WL.y (hy := (by first | exact pkT | exact pkF)) (h := ?_)
            exact mg (by repeat (first | exact trivial | refine ⟨rfl, ?_⟩ | refine ⟨by rw [hb7]; rfl, ?_⟩)) (by repeat (first | exact SubL.nil | (apply SubL.cons; (repeat (first | exact At.here | apply At.there))) | exact SubL.refl _ | apply SubL.skip))
          · intro hb7
            repeat (first | refine un (h := ?_) | refine sk (h := ?_) | refine WL.y (hy := pkF) (h := ?_) | refine WL.y (hy := pkT) (h := ?_))
            exact mg (by repeat (first | exact trivial | refine ⟨rfl, ?_⟩ | refine ⟨by rw [hb7]; rfl, ?_⟩)) (by repeat (first | exact SubL.nil | (apply SubL.cons; (repeat (first | exact At.here | apply At.there))) | exact SubL.refl _ | apply SubL.skip))
          refine WL.y (hy := asg) (h := ?_)
          refine WL.cut (by repeat (first | exact Cut.nil | apply Cut.hit | apply Cut.miss (by exact rfl))) ?_
          refine nl (h := ?_)
          refine q_seq (h := ?_)
          refine rtn (h := ?_)
          refine q_blk_ret (h := ?_)
          refine q_then_ret (h := ?_)
          refine q_ret (hR := ?_)
          refine fun w hS => ⟨?_, hS.sub (by repeat (first | exact SubL.nil | (apply SubL.cons; (repeat (first | exact At.here | apply At.there))) | exact SubL.refl _ | apply SubL.skip))⟩
          clear hS
          clear h
          simp_all [tstV, Prod.ext_iff, resV, Bool.and_assoc]
        · skip
          have k6 : ¬ x.kind = 6 := of_decide_eq_false h6
          refine sq (h := ?_)
          refine rg (h := ?_)
          refine WL.y (hy := eql) (h := ?_)
          refine WL.y (hy := asg) (h := ?_)
          refine nl (h := ?_)
          refine q_seq (h := ?_)
          refine cd (by exact rfl) (fun h8 => ?_) (fun h8 => ?_)
          · skip
            have k7 : x.kind = 7 := of_decide_eq_true h8
            refine sq (h := ?_)
            refine rg (h := ?_)
            refine WL.y (hy := (by first | exact fa | exact faE)) (h := ?_)
            refine WL.y (hy := (by first | exact ld | exact ldE)) (h := ?_)
            refine WL.y (hy := (by first | exact fa | exact faE)) (h := ?_)
            refine WL.y (hy := (by first | exact ld | exact ldE)) (h := ?_)
            refine WL.y (hy := eql) (h := ?_)
            refine WL.y (hy := asg) (h := ?_)
            refine WL.cut (by repeat (first | exact Cut.nil | apply Cut.hit | apply Cut.miss (by exact rfl))) ?_
            refine nl (h := ?_)
            refine q_seq (h := ?_)
            refine rtn (h := ?_)
            refine q_blk_ret (h := ?_)
            refine q_then_ret (h := ?_)
            refine q_ret (hR := ?_)
            refine fun w hS => ⟨?_, hS.sub (by repeat (first | exact SubL.nil | (apply SubL.cons; (repeat (first | exact At.here | apply At.there))) | exact SubL.refl _ | apply SubL.skip))⟩
            clear hS
            clear h
            simp_all [tstV, Prod.ext_iff, resV, Bool.and_assoc]
          · skip
            have k7 : ¬ x.kind = 7 := of_decide_eq_false h8
            refine skp (h := ?_)
            refine q_blk_norm (h := ?_)
            refine q_seq (h := ?_)
            refine sq (h := ?_)
            refine rg (h := ?_)
            refine WL.y (hy := asg) (h := ?_)
            refine WL.cut (by repeat (first | exact Cut.nil | apply Cut.hit | apply Cut.miss (by exact rfl))) ?_
            refine nl (h := ?_)
            refine q_seq (h := ?_)
            refine rtn (h := ?_)
            refine q_ret (hR := ?_)
            refine fun w hS => ⟨?_, hS.sub (by repeat (first | exact SubL.nil | (apply SubL.cons; (repeat (first | exact At.here | apply At.there))) | exact SubL.refl _ | apply SubL.skip))⟩
            clear hS
            clear h
            simp_all [tstV, Prod.ext_iff, resV, Bool.and_assoc]
theorem tst_hold {f : Fmt} {m : MS} (hmf : m.f = f) (hr : Rch m) (hfs : 0 ≤ m.first ∧ m.first ≤ 1) {x : Nt} (h : 3 ≤ x.kind ∧ x.kind ≤ 7) : tstV m.sc x = holdS f x (spotOf m) := by
  subst hmf
  unfold tstV holdS
  rw [← rch_win hr, ← rch_srv hfs hr]
  show (bif decide (x.kind = 3) then decide (m.p = x.pair) else bif decide (x.kind = 4) then decide (m.g = x.pair) && decide (m.p = (0, 0)) else
    bif decide (x.kind = 5) then decide (wonV m.st = x.pair) && (decide (m.g = (0, 0)) && decide (m.p = (0, 0))) else bif decide (x.kind = 6) then decide (0 ≤ m.server) && decide (m.server % 2 = x.side) else bif decide (x.kind = 7) then decide (m.winner = x.side) else false) =
    (bif decide (x.kind = 3) then decide (m.p = x.pair) else bif decide (x.kind = 4) then decide (m.g = x.pair) && decide (m.p = (0, 0)) else
    bif decide (x.kind = 5) then decide (wonV m.st = x.pair) && (decide (m.g = (0, 0)) && decide (m.p = (0, 0))) else bif decide (x.kind = 6) then decide (0 ≤ m.server) && decide (m.server % 2 = x.side) else decide (m.winner = x.side))
  by_cases h7 : x.kind = 7
  · rw [h7]; rfl
  · cases h3 : decide (x.kind = 3)
    · cases h4 : decide (x.kind = 4)
      · cases h5 : decide (x.kind = 5)
        · cases h6 : decide (x.kind = 6)
          · simp only [decide_eq_false_iff_not] at h3 h4 h5 h6; omega
          · rfl
        · rfl
      · rfl
    · rfl
end Go.Proofs.Ytncoimjgjpcipaa

namespace Go.Proofs.Ytncoimjgjpcipaa
open Go Go.RowKit

structure MtA where
  (m : MS) (sA gA : Option Addr) (sc gc : Nat)
abbrev MtA.cells (q : MtA) : List Value := (refOf q.m).cells q.sA q.sc q.gA q.gc
theorem bset_at {l : List Bool} {i t : Nat} (v : Bool) (h : i < l.length) : (l.set i v)[t]? = some true ↔ if t = i then v = true else l[t]? = some true := by
  rw [List.getElem?_set]
  by_cases e : i = t
  · subst e; rw [if_pos rfl, if_pos h, if_pos rfl]; simp
  · rw [if_neg e, if_neg (fun h => e h.symm)]
theorem rep_no (n t : Nat) : ¬ (List.replicate n false)[t]? = some true := fun h => by
  rw [List.getElem?_replicate] at h
  split at h <;> cases h
structure MtsI (f : Fmt) (first : Int) (ps : List Int) (k : Nat) (ms : List MtA) (U : List Row) : Prop where
  len : ms.length = k + 1
  ok : ∀ i q, ms[i]? = some q → playTo f first ps i = some q.m ∧ (⟨q.sA, 2, q.m.st.length, encP q.m.st⟩ : Row) ∈ U ∧ (⟨q.gA, 7, q.m.gs.length, encG q.m.gs⟩ : Row) ∈ U
theorem MtsI.snoc {f : Fmt} {first : Int} {ps : List Int} {k : Nat} {ms : List MtA} {U : List Row} (h : MtsI f first ps k ms U) {m : MS} {x : RU} (hm : playTo f first ps (k + 1) = some m) (hx : PtU U (refOf m) x) : MtsI f first ps (k + 1) (ms ++ [⟨m, x.sA, x.gA, x.sc, x.gc⟩]) x.U := by
  refine ⟨by rw [List.length_append, h.len]; rfl, fun i q hq => ?_⟩
  by_cases e : i < ms.length
  · rw [List.getElem?_append_left e] at hq
    obtain ⟨h1, h2, h3⟩ := h.ok i q hq
    exact ⟨h1, hx.sub _ h2, hx.sub _ h3⟩
  · rw [List.getElem?_append_right (by omega)] at hq
    have hl := h.len
    cases hd : i - ms.length with
    | succ d => rw [hd] at hq; simp at hq
    | zero =>
      rw [hd] at hq
      obtain rfl : (⟨m, x.sA, x.gA, x.sc, x.gc⟩ : MtA) = q := by simpa using hq
      rw [show i = k + 1 by omega]
      exact ⟨hm, hx.s, hx.g⟩
structure MOk (f : Fmt) (cf first : Int) (xs : List Nt) (ps : List Int) : Prop where
  fs : first = 0 ∨ first = 1
  cf : cf = -1 ∨ cf = first
  n : ps.length ≤ 600
  pl : ∃ m, playTo f first ps ps.length = some m
  fit : Fit f first ps xs xs.length ps.length
structure KI (f : Fmt) (first : Int) (ps : List Int) (x : Nt) (bs : List Bool) (n i : Nat) (bt : List Bool) : Prop where
  len : bt.length = n + 1
  ok : ∀ t, bt[t]? = some true ↔ ∃ m, m < i ∧ bs[m]? = some true ∧ hitV f first ps x m t
section
variable {f : Fmt} {first : Int} {ps : List Int} {x : Nt} {bs bt : List Bool} {n i : Nat}
theorem KI.start : KI f first ps x bs n 0 (List.replicate (n + 1) false) := ⟨List.length_replicate .., fun t => ⟨fun h => absurd h (rep_no _ _), fun ⟨m, hm, _⟩ => absurd hm (Nat.not_lt_zero _)⟩⟩
theorem KI.next (h : KI f first ps x bs n i bt) {bu : List Bool} (hl : bu.length = n + 1) (hb : ∀ t, bu[t]? = some true ↔ bt[t]? = some true ∨ (bs[i]? = some true ∧ hitV f first ps x i t)) : KI f first ps x bs n (i + 1) bu := by
  refine ⟨hl, fun t => ?_⟩
  rw [hb t, h.ok t]
  constructor
  · rintro (⟨m, hm, hr⟩ | hr)
    · exact ⟨m, by omega, hr⟩
    · exact ⟨i, by omega, hr⟩
  · rintro ⟨m, hm, hr⟩
    by_cases e : m = i
    · subst e; exact .inr hr
    · exact .inl ⟨m, by omega, hr⟩
theorem KI.skip (h : KI f first ps x bs n i bt) (hn : ∀ t, ¬ (bs[i]? = some true ∧ hitV f first ps x i t)) : KI f first ps x bs n (i + 1) bt := h.next h.len fun t => ⟨.inl, fun h => h.elim id fun h => absurd h (hn t)⟩
theorem KI.one (h : KI f first ps x bs n i bt) (hk : x.kind = 1) (hbi : bs[i]? = some true) (hl : ps.length = n) (hin : i + 1 ≤ n) (hs : x.side = -1 ∨ ps[i]? = some x.side) : KI f first ps x bs n (i + 1) (bt.set (i + 1) true) := by
  refine h.next (by rw [List.length_set]; exact h.len) fun t => ?_
  rw [bset_at true (by rw [h.len]; omega)]
  unfold hitV
  rw [if_pos hk]
  by_cases e : t = i + 1
  · rw [if_pos e]; exact ⟨fun _ => .inr ⟨hbi, e, by omega, hs⟩, fun _ => rfl⟩
  · rw [if_neg e]; exact ⟨.inl, fun h => h.elim id fun h => absurd h.2.1 e⟩
structure PI (x : Nt) (bt : List Bool) (n i k : Nat) (bu : List Bool) : Prop where
  len : bu.length = n + 1
  kb : x.pair.1 ≤ (k : Int) ∧ ((k : Int) = x.pair.1 ∨ ((k : Int) ≤ x.pair.2 + 1 ∧ i + k ≤ n + 1))
  ok : ∀ t, bu[t]? = some true ↔ bt[t]? = some true ∨ ∃ j : Nat, x.pair.1 ≤ (j : Int) ∧ j < k ∧ t = i + j
theorem PI.start (hl : bt.length = n + 1) {k : Nat} (hk : (k : Int) = x.pair.1) : PI x bt n i k bt := ⟨hl, ⟨by omega, .inl hk⟩, fun t => ⟨.inl, fun h => h.elim id fun ⟨j, h1, h2, _⟩ => by omega⟩⟩
theorem PI.next {k : Nat} {bu : List Bool} (h : PI x bt n i k bu) (h1 : (k : Int) ≤ x.pair.2) (h2 : i + k < n + 1) : PI x bt n i (k + 1) (bu.set (i + k) true) := by
  have hk := h.kb
  refine ⟨by rw [List.length_set]; exact h.len, ⟨by omega, .inr ⟨by omega, by omega⟩⟩, fun t => ?_⟩
  rw [bset_at true (by rw [h.len]; omega), h.ok t]
  by_cases e : t = i + k
  · rw [if_pos e]; exact ⟨fun _ => .inr ⟨k, hk.1, by omega, e⟩, fun _ => rfl⟩
  · rw [if_neg e]
    refine ⟨fun h => h.imp id fun ⟨j, a, b, c⟩ => ⟨j, a, by omega, c⟩, fun h => h.imp id fun ⟨j, a, b, c⟩ => ⟨j, a, ?_, c⟩⟩
    by_cases e2 : j = k
    · subst e2; exact absurd c e
    · omega
theorem PI.done {k : Nat} {bu : List Bool} (h : PI x bt n i k bu) (hx : x.kind = 2) (hr : 0 ≤ x.pair.1 ∧ x.pair.1 ≤ x.pair.2) (hin : i ≤ n) (hk : ¬ ((k : Int) ≤ x.pair.2 ∧ i + k < n + 1)) (hbi : bs[i]? = some true) (hl : ps.length = n) (hK : KI f first ps x bs n i bt) : KI f first ps x bs n (i + 1) bu := by
  have hkk := h.kb
  refine hK.next h.len fun t => ?_
  rw [h.ok t]
  unfold hitV
  rw [if_neg (show ¬ x.kind = 1 by omega), if_pos hx]
  constructor
  · rintro (h | ⟨j, h1, h2, rfl⟩)
    · exact .inl h
    · exact .inr ⟨hbi, ⟨by omega, by omega⟩, by omega, by omega⟩
  · rintro (h | ⟨_, ⟨h1, h2⟩, h3, h4⟩)
    · exact .inl h
    · exact .inr ⟨t - i, by omega, by omega, by omega⟩
end
end Go.Proofs.Ytncoimjgjpcipaa

namespace Go.Proofs.Ytncoimjgjpcipaa
open Go Go.RowKit

noncomputable def mokB (f : Fmt) (cf first : Int) (xs : List Nt) (ps : List Int) : Bool := @decide (MOk f cf first xs ps) (Classical.propDecidable _)
structure TrM (f : Fmt) (cf first : Int) (xs : List Nt) (ps : List Int) (m : MS) : Prop where
  o : playO f first ps = some m
  k : spotOf m ∈ keyC (crowdC f cf xs)
  lo : (cntC f cf xs).1 ≤ ps.length
  hi : (ps.length : Int) ≤ (cntC f cf xs).2
  f : m.f = f
  fs : m.first = first
  r : Rch m
theorem MOk.play {f : Fmt} {cf first : Int} {xs : List Nt} {ps : List Int} (h : MOk f cf first xs ps) (hR : Rdy f cf xs) : ∃ m, TrM f cf first xs ps m := by
  obtain ⟨m, hm⟩ := h.pl
  obtain ⟨h1, h2⟩ := play_can hR.ok hm
  have h3 := h.fs
  obtain ⟨e, he, e1, e2, e3⟩ := true_match h1 (beg_in h.fs h.cf) h.fit
  obtain ⟨_, _, s3⟩ := span_le (crowdC f cf xs) (600, 0)
  have s4 := s3 e he
  have hc0 := (chk_facts hR.c).1
  have hp : preE f first ps.length = 0 := by
    have hs : sideBad first = false := by rcases h3 with rfl | rfl <;> rfl
    unfold preE
    rw [hc0, hs, decide_eq_false (show ¬ (600 : Int) < ps.length by have := h.n; omega)]; rfl
  refine ⟨m, by rw [playO, hp]; exact hm, by rw [h2, ← e1]; exact List.mem_map.2 ⟨e, he, rfl⟩, ?_, ?_, (playTo_inv hR.ok hm).1, (playTo_inv hR.ok hm).2.1, playTo_rch hR.ok hm⟩
  · show (spanC _ _).1 ≤ _; omega
  · show _ ≤ (spanC _ _).2; omega
theorem TrM.bad {f : Fmt} {cf first : Int} {xs : List Nt} {ps : List Int} {m : MS} (h : TrM f cf first xs ps m) (hR : Rdy f cf xs) : badC f cf xs = -1 ∧ fewV f cf xs = 0 ∧ posE f cf xs = 0 ∧ cntV f cf xs = cntC f cf xs := by
  have h1 := hR.bad_key.2 ⟨_, h.k⟩
  have h2 : posE f cf xs = 0 := by rw [hR.pos, if_pos h1]
  exact ⟨h1, (few_zero hR.cf xs).2 h1, h2, by rw [cntV, h2]; rfl⟩
theorem fnd_succR {zs : List BA} {b : Brd} {j : Nat} {y : BA} (h : zs[j]? = some y) : fndX zs b (j + 1) = (fndX zs b j || decide (y.b = b)) := by
  rw [fnd_succ h]
  congr 1
  exact decide_eq_decide.2 ⟨fun e => e.symm, fun e => e.symm⟩
end Go.Proofs.Ytncoimjgjpcipaa

namespace Go.Proofs.Ytncoimjgjpcipaa
open Go Go.RowKit

theorem Rdy.sureE {f : Fmt} {cf : Int} {xs : List Nt} (h : Rdy f cf xs) {x : Nt} (hx : mkV x = true) (h3 : 3 ≤ x.kind) : sureE f cf xs x = posE f cf xs ∧ sureV f cf xs x = (decide (posE f cf xs = 0) && sureB f cf xs x) := by
  have e : Go.Proofs.Ytncoimjgjpcipaa.sureE f cf xs x = posE f cf xs := by
    unfold Go.Proofs.Ytncoimjgjpcipaa.sureE
    rw [decide_eq_true h.c, cond_true, decide_eq_false (show ¬ x.kind < 3 by omega), hx]; rfl
  exact ⟨e, by unfold sureV; rw [e]⟩
theorem sure_tst {f : Fmt} {cf first : Int} {xs : List Nt} {ps : List Int} {m : MS} {x : Nt} (h : TrM f cf first xs ps m) (hfs : first = 0 ∨ first = 1) (hs : sureB f cf xs x = true) (hk : 3 ≤ x.kind ∧ x.kind ≤ 7) : tstV m.sc x = true := by
  rw [tst_hold h.f h.r (by rw [h.fs]; omega) hk]
  exact List.all_eq_true.1 hs _ h.k
theorem TrM.st {f : Fmt} {cf first : Int} {xs : List Nt} {ps : List Int} {m : MS} (h : TrM f cf first xs ps m) (hM : MOk f cf first xs ps) (hf : f.Ok) : m.st.length ≤ 1000000 := by
  obtain ⟨m9, hm9⟩ := hM.pl
  have e9 : some m = some m9 := by
    have g9 := h.o
    unfold playO at g9
    rw [← hm9]
    cases hq : !decide (preE f first ps.length = 0)
    · rw [hq] at g9; exact g9.symm
    · rw [hq] at g9; cases g9
  cases e9
  have := (playTo_bd hf hM.fs (by have := hM.n; omega) hm9).s
  have := hM.n
  omega
theorem Rdy.more {f : Fmt} {cf : Int} {xs : List Nt} (h : Rdy f cf xs) {x : Nt} (hx : mkV x = true) (h3 : 3 ≤ x.kind) : chkC f cf (xs ++ [x]) = 0 ∧ mostS (xs ++ [x]) ≤ 20 ∧ (crowdC f cf (xs ++ [x])).length ≤ 4194304 := by
  obtain ⟨c1, c2, c3, c4, c5, c6⟩ := chk_facts h.c
  have hmk : ∀ y ∈ xs ++ [x], mkV y = true := fun y hy => by
    rcases List.mem_append.1 hy with hy | hy
    · exact h.mks y hy
    · rw [List.mem_singleton.1 hy]; exact hx
  have e1 : misS (xs ++ [x]) = misS xs := by
    unfold misS
    rw [List.map_append, List.sum_append]
    show _ + (misN x + 0) = _
    unfold misN
    rw [decide_eq_false (show ¬ x.kind = 2 by omega)]
    show _ + ((0 : Int) + 0) = _
    omega
  have e2 : mostS (xs ++ [x]) = mostS xs := by
    unfold mostS
    rw [List.map_append, List.sum_append]
    show _ + (mostN x + 0) = _
    unfold mostN
    rw [if_neg (by omega), if_neg (by omega)]
    omega
  have hl : (xs ++ [x]).length = xs.length + 1 := by rw [List.length_append]; rfl
  have h1 := h.n
  have h2 := h.m
  have h4 := h.mis
  obtain ⟨g1, g2, g3⟩ := exp_mis hmk
  have g4 := crowd_len f cf (xs ++ [x])
  have he : expS (xs ++ [x]) ≤ 21 := by omega
  have hp : 2 ^ expS (xs ++ [x]) ≤ 2 ^ 21 := Nat.pow_le_pow_right (by omega) he
  exact ⟨chk_of c1 c3 (by omega) hmk (by omega), by omega, by omega⟩
end Go.Proofs.Ytncoimjgjpcipaa

namespace Go.Proofs.Ytncoimjgjpcipaa
open Go Go.RowKit

def calN (s : Sc) (k : Int) : Nt := bif decide (k = 1) then ⟨3, 0, s.p⟩ else bif decide (k = 2) then ⟨4, 0, s.g⟩ else bif decide (k = 3) then ⟨6, max 0 s.server % 2, (0, 0)⟩ else bif decide (k = 4) then ⟨5, 0, wonV s.st⟩ else bif decide (k = 5) then ⟨7, max 0 s.winner, (0, 0)⟩ else ⟨0, 0, (0, 0)⟩
def calB (s : Sc) (k : Int) : Bool := bif decide (k = 1) then decide (max s.p.1 s.p.2 ≤ 40) else bif decide (k = 2) then decide (s.p = (0, 0)) else bif decide (k = 3) then decide (0 ≤ s.server) else bif decide (k = 4) then decide (s.p = (0, 0)) && decide (s.g = (0, 0)) else bif decide (k = 5) then decide (0 ≤ s.winner) else false
theorem cal_tst {s : Sc} {k : Int} (h : calB s k = true) : tstV s (calN s k) = true ∧ 3 ≤ (calN s k).kind ∧ (calN s k).kind ≤ 7 := by
  unfold calB at h
  unfold calN tstV
  by_cases h1 : k = 1
  · subst h1; exact ⟨decide_eq_true rfl, (by decide : (3 : Int) ≤ 3), (by decide : (3 : Int) ≤ 7)⟩
  · rw [decide_eq_false h1, cond_false] at h ⊢
    by_cases h2 : k = 2
    · subst h2
      refine ⟨?_, (by decide : (3 : Int) ≤ 4), (by decide : (4 : Int) ≤ 7)⟩
      show (decide (s.g = s.g) && decide (s.p = (0, 0))) = true
      rw [show decide (s.p = (0, 0)) = true from h, decide_eq_true rfl]; rfl
    · rw [decide_eq_false h2, cond_false] at h ⊢
      by_cases h3 : k = 3
      · subst h3
        refine ⟨?_, (by decide : (3 : Int) ≤ 6), (by decide : (6 : Int) ≤ 7)⟩
        have h0 : 0 ≤ s.server := of_decide_eq_true h
        show (decide (0 ≤ s.server) && decide (s.server % 2 = max 0 s.server % 2)) = true
        rw [decide_eq_true h0, Int.max_eq_right h0, decide_eq_true rfl]; rfl
      · rw [decide_eq_false h3, cond_false] at h ⊢
        by_cases h4 : k = 4
        · subst h4
          refine ⟨?_, (by decide : (3 : Int) ≤ 5), (by decide : (5 : Int) ≤ 7)⟩
          have h0 : (decide (s.p = (0, 0)) && decide (s.g = (0, 0))) = true := h
          rw [Bool.and_eq_true] at h0
          show (decide (wonV s.st = wonV s.st) && (decide (s.g = (0, 0)) && decide (s.p = (0, 0)))) = true
          rw [h0.1, h0.2, decide_eq_true rfl]; rfl
        · rw [decide_eq_false h4, cond_false] at h ⊢
          by_cases h5 : k = 5
          · subst h5
            refine ⟨?_, (by decide : (3 : Int) ≤ 7), (by decide : (7 : Int) ≤ 7)⟩
            have h0 : 0 ≤ s.winner := of_decide_eq_true h
            show decide (s.winner = max 0 s.winner) = true
            rw [Int.max_eq_right h0]; exact decide_eq_true rfl
          · rw [decide_eq_false h5, cond_false] at h; cases h
set_option maxRecDepth 100000 in
theorem C_top_called (s : Sc) (A : Option Addr) (c : Nat) (k : Int) (w : World) (h : Rd w A 2 s.st.length (encP s.st)) (hn : s.st.length ≤ 1000000) : C0 Try.prog 29 [s.val A c, .int .i64 k] w (.tuple #[(calN s k).val, .bool (calB s k)]) := by
  refine ⟨en Try.func29 Try.ntmps29 ((St.init w).share (e := .ro A 2 s.st.length (encP s.st)) h rfl rfl rfl) (h := fun F => ?_)⟩
  refine sq (h := ?_)
  refine rg (h := ?_)
  refine bxA (h := fun b0 => ?_)
  refine al (h := fun b1 => ?_)
  refine WL.y (hy := asg) (h := ?_)
  refine WL.cut (by repeat (first | exact Cut.nil | apply Cut.hit | apply Cut.miss (by exact rfl))) ?_
  refine nl (h := ?_)
  refine q_seq (h := ?_)
  refine sq (h := ?_)
  refine rg (h := ?_)
  refine WL.y (hy := (by first | exact fa | exact faE)) (h := ?_)
  refine WL.y (hy := (by first | exact ldA | exact ldEA)) (h := ?_)
  refine al (h := fun b2 => ?_)
  first | refine stA (h := ?_) | refine stEA (h := ?_)
  refine nl (h := ?_)
  refine q_seq (h := ?_)
  refine sq (h := ?_)
  refine rg (h := ?_)
  refine WL.y (hy := (by first | exact fa | exact faE)) (h := ?_)
  refine WL.y (hy := (by first | exact ldA | exact ldEA)) (h := ?_)
  refine WL.y (hy := bd) (h := ?_)
  refine WL.y (hy := eqlT) (h := ?_)
  refine WL.y (hy := asg) (h := ?_)
  refine nl (h := ?_)
  refine q_seq (h := ?_)
  refine sq (h := ?_)
  refine sq (h := ?_)
  refine rg (h := ?_)
  refine WL.y (hy := mv) (h := ?_)
  refine nl (h := ?_)
  refine q_seq (h := ?_)
  refine bk (h := ?_)
  refine sq (h := ?_)
  refine rg (h := ?_)
  refine WL.y (hy := eql) (h := ?_)
  refine WL.y (hy := asg) (h := ?_)
  refine nl (h := ?_)
  refine q_seq (h := ?_)
  refine cd (by exact rfl) (fun h0 => ?_) (fun h0 => ?_)
  · skip
    have k1 : k = 1 := of_decide_eq_true h0
    refine sq (h := ?_)
    refine rgD (by kernel_rfl) [(11, .blk b1 40 [.int .i64 0, .int .i64 0, .int .i64 0, .int .i64 0]), (1000000, .blk b2 44 [.slice A s.st.length c, .int .i64 s.g.1, .int .i64 s.g.2, .int .i64 s.p.1, .int .i64 s.p.2])] (by repeat (first | exact HS.nil | (apply HS.keep; (repeat (first | exact At.here | apply At.there))) | (apply HS.ro; (repeat (first | exact Rds.ro | exact Rds.own | apply Rds.there))))) (h := ?_)
    refine tk 0 (hy := (by first | exact fa | exact faE)) (h := ?_)
    refine tk 1 (hy := (by first | exact ldA | exact ldEA)) (h := ?_)
    refine tk 2 (hy := bd) (h := ?_)
    refine tk 3 (hy := (by first | exact fa | exact faE)) (h := ?_)
    refine tk 4 (hy := (by first | exact fa | exact faE)) (h := ?_)
    refine tk 5 (hy := (by first | exact ld | exact ldE)) (h := ?_)
    refine tk 6 (hy := (by first | exact fa | exact faE)) (h := ?_)
    refine tk 7 (hy := (by first | exact fa | exact faE)) (h := ?_)
    refine tk 8 (hy := (by first | exact ld | exact ldE)) (h := ?_)
    refine tk 9 (hy := maxI) (h := ?_)
    refine tk 10 (hy := leq) (h := ?_)
    refine one 11 (h := ?_)
    first | refine stA (h := ?_) | refine stEA (h := ?_)
    refine nx (h := ?_)
    refine tk 12 (hy := asg) (h := ?_)
    refine dn (h := ?_)
    refine q_seq (h := ?_)
    refine rtn (h := ?_)
    refine q_blk_ret (h := ?_)
    refine q_then_ret (h := ?_)
    refine q_ret (hR := ?_)
    refine fun w hS => ⟨?_, hS.sub (by repeat (first | exact SubL.nil | (apply SubL.cons; (repeat (first | exact At.here | apply At.there))) | exact SubL.refl _ | apply SubL.skip))⟩
    clear hS
    clear h
    simp_all [calN, calB, Prod.ext_iff, resV, Bool.and_assoc]
  · skip
    have k1 : ¬ k = 1 := of_decide_eq_false h0
    refine sq (h := ?_)
    refine rg (h := ?_)
    refine WL.y (hy := eql) (h := ?_)
    refine WL.y (hy := asg) (h := ?_)
    refine nl (h := ?_)
    refine q_seq (h := ?_)
    refine cd (by exact rfl) (fun h1 => ?_) (fun h1 => ?_)
    · skip
      have k2 : k = 2 := of_decide_eq_true h1
      refine sq (h := ?_)
      refine rg (h := ?_)
      refine WL.y (hy := (by first | exact fa | exact faE)) (h := ?_)
      refine WL.y (hy := (by first | exact ldA | exact ldEA)) (h := ?_)
      refine WL.y (hy := bd) (h := ?_)
      refine WL.y (hy := mv) (h := ?_)
      first | refine stA (h := ?_) | refine stEA (h := ?_)
      refine WL.y (hy := asg) (h := ?_)
      refine WL.cut (by repeat (first | exact Cut.nil | apply Cut.hit | apply Cut.miss (by exact rfl))) ?_
      refine nl (h := ?_)
      refine q_seq (h := ?_)
      refine rtn (h := ?_)
      refine q_blk_ret (h := ?_)
      refine q_then_ret (h := ?_)
      refine q_ret (hR := ?_)
      refine fun w hS => ⟨?_, hS.sub (by repeat (first | exact SubL.nil | (apply SubL.cons; (repeat (first | exact At.here | apply At.there))) | exact SubL.refl _ | apply SubL.skip))⟩
      clear hS
      clear h
      simp_all [calN, calB, Prod.ext_iff, resV, Bool.and_assoc]
    · skip
      have k2 : ¬ k = 2 := of_decide_eq_false h1
      refine sq (h := ?_)
      refine rg (h := ?_)
      refine WL.y (hy := eql) (h := ?_)
      refine WL.y (hy := asg) (h := ?_)
      refine nl (h := ?_)
      refine q_seq (h := ?_)
      refine cd (by exact rfl) (fun h2 => ?_) (fun h2 => ?_)
      · skip
        have k3 : k = 3 := of_decide_eq_true h2
        refine sq (h := ?_)
        refine rgD (by kernel_rfl) [(8, .blk b1 40 [.int .i64 0, .int .i64 0, .int .i64 0, .int .i64 0]), (1000000, .blk b0 55 (s.cells A c))] (by repeat (first | exact HS.nil | (apply HS.keep; (repeat (first | exact At.here | apply At.there))) | (apply HS.ro; (repeat (first | exact Rds.ro | exact Rds.own | apply Rds.there))))) (h := ?_)
        refine tk 0 (hy := (by first | exact fa | exact faE)) (h := ?_)
        refine tk 1 (hy := (by first | exact ld | exact ldE)) (h := ?_)
        refine tk 2 (hy := maxI) (h := ?_)
        refine tk 3 (hy := remI) (h := ?_)
        refine tk 4 (hy := bd) (h := ?_)
        refine tk 5 (hy := (by first | exact fa | exact faE)) (h := ?_)
        refine tk 6 (hy := (by first | exact ld | exact ldE)) (h := ?_)
        refine tk 7 (hy := geq) (h := ?_)
        refine one 8 (h := ?_)
        first | refine stA (h := ?_) | refine stEA (h := ?_)
        refine nx (h := ?_)
        refine tk 9 (hy := asg) (h := ?_)
        refine dn (h := ?_)
        refine q_seq (h := ?_)
        refine rtn (h := ?_)
        refine q_blk_ret (h := ?_)
        refine q_then_ret (h := ?_)
        refine q_ret (hR := ?_)
        refine fun w hS => ⟨?_, hS.sub (by repeat (first | exact SubL.nil | (apply SubL.cons; (repeat (first | exact At.here | apply At.there))) | exact SubL.refl _ | apply SubL.skip))⟩
        clear hS
        clear h
        simp_all [calN, calB, Prod.ext_iff, resV, Bool.and_assoc]
      · skip
        have k3 : ¬ k = 3 := of_decide_eq_false h2
        refine sq (h := ?_)
        refine rg (h := ?_)
        refine WL.y (hy := eql) (h := ?_)
        refine WL.y (hy := asg) (h := ?_)
        refine nl (h := ?_)
        refine q_seq (h := ?_)
        refine cd (by exact rfl) (fun h3 => ?_) (fun h3 => ?_)
        · skip
          have k4 : k = 4 := of_decide_eq_true h3
          refine sq (h := ?_)
          refine rgD (by kernel_rfl) [(11, .blk b1 40 [.int .i64 0, .int .i64 0, .int .i64 0, .int .i64 0]), (1000000, .blk b2 44 [.slice A s.st.length c, .int .i64 s.g.1, .int .i64 s.g.2, .int .i64 s.p.1, .int .i64 s.p.2])] (by repeat (first | exact HS.nil | (apply HS.keep; (repeat (first | exact At.here | apply At.there))) | (apply HS.ro; (repeat (first | exact Rds.ro | exact Rds.own | apply Rds.there))))) (h := ?_)
          refine tk 0 (hy := (by first | exact fa | exact faE)) (h := ?_)
          refine tk 1 (hy := (by first | exact ld | exact ldE)) (h := ?_)
          refine tk 4 (hy := mv) (h := ?_)
          refine one 2 (h := ?_)
          refine cl0 (hc := fun w hS => C_ref1_Won s.st A s.st.length c w (hS.get (by repeat (first | exact Rds.ro | exact Rds.own | apply Rds.there))) hn) (h := ?_)
          refine nx (h := ?_)
          refine tk 3 (hy := bd) (h := ?_)
          refine tk 5 (hy := mv) (h := ?_)
          refine brH (g := 51) (by exact rfl) (fun hb4 => ?_) (fun hb4 => ?_)
          · skip
            refine tk 6 (hy := (by first | exact fa | exact faE)) (h := ?_)
            refine tk 7 (hy := (by first | exact ldA | exact ldEA)) (h := ?_)
            refine tk 8 (hy := bd) (h := ?_)
            refine tk 9 (hy := eqlT) (h := ?_)
            refine tk 10 (hy := (by first | exact pkT | exact pkF)) (h := ?_)
            refine one 11 (h := ?_)
            first | refine stA (h := ?_) | refine stEA (h := ?_)
            refine nx (h := ?_)
            refine tk 12 (hy := asg) (h := ?_)
            refine dn (h := ?_)
            refine q_seq (h := ?_)
            refine rtn (h := ?_)
            refine q_blk_ret (h := ?_)
            refine q_then_ret (h := ?_)
            refine q_ret (hR := ?_)
            refine fun w hS => ⟨?_, hS.sub (by repeat (first | exact SubL.nil | (apply SubL.cons; (repeat (first | exact At.here | apply At.there))) | exact SubL.refl _ | apply SubL.skip))⟩
            clear hS
            clear h
            simp_all [calN, calB, Prod.ext_iff, resV, Bool.and_assoc]
          · skip
            refine tkS 6 (h := ?_)
            refine tkS 7 (h := ?_)
            refine tkS 8 (h := ?_)
            refine tkS 9 (h := ?_)
            refine tk 10 (hy := (by first | exact pkT | exact pkF)) (h := ?_)
            refine one 11 (h := ?_)
            first | refine stA (h := ?_) | refine stEA (h := ?_)
            refine nx (h := ?_)
            refine tk 12 (hy := asg) (h := ?_)
            refine dn (h := ?_)
            refine q_seq (h := ?_)
            refine rtn (h := ?_)
            refine q_blk_ret (h := ?_)
            refine q_then_ret (h := ?_)
            refine q_ret (hR := ?_)
            refine fun w hS => ⟨?_, hS.sub (by repeat (first | exact SubL.nil | (apply SubL.cons; (repeat (first | exact At.here | apply At.there))) | exact SubL.refl _ | apply SubL.skip))⟩
            clear hS
            clear h
            simp_all [calN, calB, Prod.ext_iff, resV, Bool.and_assoc]
        · skip
          have k4 : ¬ k = 4 := of_decide_eq_false h3
          refine sq (h := ?_)
          refine rg (h := ?_)
          refine WL.y (hy := eql) (h := ?_)
          refine WL.y (hy := asg) (h := ?_)
          refine nl (h := ?_)
          refine q_seq (h := ?_)
          refine cd (by exact rfl) (fun h5 => ?_) (fun h5 => ?_)
          · skip
            have k5 : k = 5 := of_decide_eq_true h5
            refine sq (h := ?_)
            refine rgD (by kernel_rfl) [(7, .blk b1 40 [.int .i64 0, .int .i64 0, .int .i64 0, .int .i64 0]), (1000000, .blk b0 55 (s.cells A c))] (by repeat (first | exact HS.nil | (apply HS.keep; (repeat (first | exact At.here | apply At.there))) | (apply HS.ro; (repeat (first | exact Rds.ro | exact Rds.own | apply Rds.there))))) (h := ?_)
            refine tk 0 (hy := (by first | exact fa | exact faE)) (h := ?_)
            refine tk 1 (hy := (by first | exact ld | exact ldE)) (h := ?_)
            refine tk 2 (hy := maxI) (h := ?_)
            refine tk 3 (hy := bd) (h := ?_)
            refine tk 4 (hy := (by first | exact fa | exact faE)) (h := ?_)
            refine tk 5 (hy := (by first | exact ld | exact ldE)) (h := ?_)
            refine tk 6 (hy := geq) (h := ?_)
            refine one 7 (h := ?_)
            first | refine stA (h := ?_) | refine stEA (h := ?_)
            refine nx (h := ?_)
            refine tk 8 (hy := asg) (h := ?_)
            refine dn (h := ?_)
            refine q_seq (h := ?_)
            refine rtn (h := ?_)
            refine q_blk_ret (h := ?_)
            refine q_then_ret (h := ?_)
            refine q_ret (hR := ?_)
            refine fun w hS => ⟨?_, hS.sub (by repeat (first | exact SubL.nil | (apply SubL.cons; (repeat (first | exact At.here | apply At.there))) | exact SubL.refl _ | apply SubL.skip))⟩
            clear hS
            clear h
            simp_all [calN, calB, Prod.ext_iff, resV, Bool.and_assoc]
          · skip
            have k5 : ¬ k = 5 := of_decide_eq_false h5
            refine skp (h := ?_)
            refine q_blk_norm (h := ?_)
            refine q_seq (h := ?_)
            refine sq (h := ?_)
            refine rg (h := ?_)
            refine WL.y (hy := bd) (h := ?_)
            first | refine stA (h := ?_) | refine stEA (h := ?_)
            refine WL.y (hy := asg) (h := ?_)
            refine WL.cut (by repeat (first | exact Cut.nil | apply Cut.hit | apply Cut.miss (by exact rfl))) ?_
            refine nl (h := ?_)
            refine q_seq (h := ?_)
            refine rtn (h := ?_)
            refine q_ret (hR := ?_)
            refine fun w hS => ⟨?_, hS.sub (by repeat (first | exact SubL.nil | (apply SubL.cons; (repeat (first | exact At.here | apply At.there))) | exact SubL.refl _ | apply SubL.skip))⟩
            clear hS
            clear h
            simp_all [calN, calB, Prod.ext_iff, resV, Bool.and_assoc]
set_option maxRecDepth 100000 in
theorem C_top_carded (w : World) : C0 Try.prog 27 [] w (.bool true) := by
  refine ⟨en Try.func27 Try.ntmps27 (St.init w) (h := fun F => ?_)⟩
  refine sq (h := ?_)
  refine rg (h := ?_)
  refine WL.y (hy := asg) (h := ?_)
  refine nl (h := ?_)
  refine q_seq (h := ?_)
  refine sq (h := ?_)
  refine rg (h := ?_)
  refine cl (hc := fun w hS => C_law1_Example w) (h := fun x0 _ => ?_)
  refine WL.y (hy := mv) (h := ?_)
  refine WL.y (hy := ex) (h := ?_)
  refine WL.y (hy := ex) (h := ?_)
  refine al (h := fun b0 => ?_)
  first | refine stA (h := ?_) | refine stEA (h := ?_)
  refine WL.y (hy := asg) (h := ?_)
  refine nl (h := ?_)
  refine q_seq (h := ?_)
  refine sq (h := ?_)
  refine rg (h := ?_)
  refine WL.y (hy := (by first | exact ldA | exact ldEA)) (h := ?_)
  refine WL.y (hy := mv) (h := ?_)
  refine cl (hc := fun w hS => C_score_Play exF 0 exP x0.1 20 x0.2 w (hS.get (by repeat (first | exact Rds.ro | exact Rds.own | apply Rds.there))) (by omega)) (h := fun x1 _ => ?_)
  rw [ex_play, ex_playE]
  dsimp only [Sc.val]
  refine WL.y (hy := mv) (h := ?_)
  refine WL.y (hy := ex) (h := ?_)
  refine WL.y (hy := ex) (h := ?_)
  refine al (h := fun b1 => ?_)
  first | refine stA (h := ?_) | refine stEA (h := ?_)
  refine WL.y (hy := asg) (h := ?_)
  refine nl (h := ?_)
  refine q_seq (h := ?_)
  refine sq (h := ?_)
  refine rg (h := ?_)
  refine cl (hc := fun w hS => C_law3_Example w) (h := fun y0 _ => ?_)
  refine al (h := fun b2 => ?_)
  first | refine stA (h := ?_) | refine stEA (h := ?_)
  refine nl (h := ?_)
  refine q_seq (h := ?_)
  refine sq (h := ?_)
  refine rg (h := ?_)
  refine WL.y (hy := (by first | exact ldA | exact ldEA)) (h := ?_)
  refine cl0 (hc := fun w hS => C_card_First exF 0 exX (some ⟨y0, 0, none⟩) 5 5 w (hS.get (by repeat (first | exact Rds.ro | exact Rds.own | apply Rds.there))) (by omega) (fun _ => by rw [ex_most]; decide)) (h := ?_)
  rw [ex_all, ex_chk]
  refine WL.y (hy := mv) (h := ?_)
  refine WL.y (hy := ex) (h := ?_)
  refine WL.y (hy := ex) (h := ?_)
  refine WL.y (hy := asg) (h := ?_)
  refine WL.y (hy := asg) (h := ?_)
  refine nl (h := ?_)
  refine q_seq (h := ?_)
  refine sq (h := ?_)
  refine rg (h := ?_)
  refine WL.y (hy := (by first | exact ldA | exact ldEA)) (h := ?_)
  refine cl (hc := fun w hS => C_card_BoardsT exF 0 exX (some ⟨y0, 0, none⟩) 5 5 w (hS.get (by repeat (first | exact Rds.ro | exact Rds.own | apply Rds.there))) (by omega) (fun _ => by rw [ex_most]; decide) (by rw [ex_len]; decide)) (h := fun qa hqa => ?_)
  rw [ex_pos]
  have hl1 : qa.zs.length = 1 := by
    have h9 := hqa.yes ex_pos
    rw [ex_boards] at h9
    have := congrArg List.length h9
    rwa [List.length_map] at this
  rw [hl1]
  refine WL.y (hy := mv) (h := ?_)
  refine WL.y (hy := ex) (h := ?_)
  refine WL.y (hy := ex) (h := ?_)
  refine WL.y (hy := asg) (h := ?_)
  refine WL.y (hy := asg) (h := ?_)
  refine nl (h := ?_)
  refine q_seq (h := ?_)
  refine sq (h := ?_)
  refine rg (h := ?_)
  refine WL.y (hy := mv) (h := ?_)
  refine WL.y (hy := eql) (h := ?_)
  refine WL.y (hy := mv) (h := ?_)
  apply brAnd 3 33 36 (by exact rfl)
  · intro hb0
    refine un (h := ?_)
    refine WL.y (hy := mv) (h := ?_)
    refine un (h := ?_)
    refine WL.y (hy := eql) (h := ?_)
    refine WL.y (hy := (by first | exact pkT | exact pkF)) (h := ?_)
    exact mg (by repeat (first | exact trivial | refine ⟨rfl, ?_⟩ | refine ⟨by rw [hb0]; rfl, ?_⟩)) (by repeat (first | exact SubL.nil | (apply SubL.cons; (repeat (first | exact At.here | apply At.there))) | exact SubL.refl _ | apply SubL.skip))
  · intro hb0
    repeat (first | refine un (h := ?_) | refine sk (h := ?_) | refine WL.y (hy := pkF) (h := ?_) | refine WL.y (hy := pkT) (h := ?_))
    exact mg (by repeat (first | exact trivial | refine ⟨rfl, ?_⟩ | refine ⟨by rw [hb0]; rfl, ?_⟩)) (by repeat (first | exact SubL.nil | (apply SubL.cons; (repeat (first | exact At.here | apply At.there))) | exact SubL.refl _ | apply SubL.skip))
  refine WL.y (hy := mv) (h := ?_)
  apply brAnd 3 37 40 (by exact rfl)
  · intro hb1
    refine un (h := ?_)
    refine WL.y (hy := mv) (h := ?_)
    refine un (h := ?_)
    refine WL.y (hy := eql) (h := ?_)
    refine WL.y (hy := (by first | exact pkT | exact pkF)) (h := ?_)
    exact mg (by repeat (first | exact trivial | refine ⟨rfl, ?_⟩ | refine ⟨by rw [hb1]; rfl, ?_⟩)) (by repeat (first | exact SubL.nil | (apply SubL.cons; (repeat (first | exact At.here | apply At.there))) | exact SubL.refl _ | apply SubL.skip))
  · intro hb1
    repeat (first | refine un (h := ?_) | refine sk (h := ?_) | refine WL.y (hy := pkF) (h := ?_) | refine WL.y (hy := pkT) (h := ?_))
    exact mg (by repeat (first | exact trivial | refine ⟨rfl, ?_⟩ | refine ⟨by rw [hb1]; rfl, ?_⟩)) (by repeat (first | exact SubL.nil | (apply SubL.cons; (repeat (first | exact At.here | apply At.there))) | exact SubL.refl _ | apply SubL.skip))
  refine WL.y (hy := mv) (h := ?_)
  apply brAnd 4 41 45 (by exact rfl)
  · intro hb2
    refine un (h := ?_)
    refine WL.y (hy := (by first | exact fa | exact faE)) (h := ?_)
    refine un (h := ?_)
    refine WL.y (hy := (by first | exact ld | exact ldE)) (h := ?_)
    refine un (h := ?_)
    refine WL.y (hy := eql) (h := ?_)
    refine WL.y (hy := (by first | exact pkT | exact pkF)) (h := ?_)
    exact mg (by repeat (first | exact trivial | refine ⟨rfl, ?_⟩ | refine ⟨by rw [hb2]; rfl, ?_⟩)) (by repeat (first | exact SubL.nil | (apply SubL.cons; (repeat (first | exact At.here | apply At.there))) | exact SubL.refl _ | apply SubL.skip))
  · intro hb2
    repeat (first | refine un (h := ?_) | refine sk (h := ?_) | refine WL.y (hy := pkF) (h := ?_) | refine WL.y (hy := pkT) (h := ?_))
    exact mg (by repeat (first | exact trivial | refine ⟨rfl, ?_⟩ | refine ⟨by rw [hb2]; rfl, ?_⟩)) (by repeat (first | exact SubL.nil | (apply SubL.cons; (repeat (first | exact At.here | apply At.there))) | exact SubL.refl _ | apply SubL.skip))
  refine WL.y (hy := mv) (h := ?_)
  apply brAnd 3 46 49 (by exact rfl)
  · intro hb3
    refine un (h := ?_)
    refine WL.y (hy := mv) (h := ?_)
    refine un (h := ?_)
    refine WL.y (hy := eql) (h := ?_)
    refine WL.y (hy := (by first | exact pkT | exact pkF)) (h := ?_)
    exact mg (by repeat (first | exact trivial | refine ⟨rfl, ?_⟩ | refine ⟨by rw [hb3]; rfl, ?_⟩)) (by repeat (first | exact SubL.nil | (apply SubL.cons; (repeat (first | exact At.here | apply At.there))) | exact SubL.refl _ | apply SubL.skip))
  · intro hb3
    repeat (first | refine un (h := ?_) | refine sk (h := ?_) | refine WL.y (hy := pkF) (h := ?_) | refine WL.y (hy := pkT) (h := ?_))
    exact mg (by repeat (first | exact trivial | refine ⟨rfl, ?_⟩ | refine ⟨by rw [hb3]; rfl, ?_⟩)) (by repeat (first | exact SubL.nil | (apply SubL.cons; (repeat (first | exact At.here | apply At.there))) | exact SubL.refl _ | apply SubL.skip))
  refine WL.y (hy := mv) (h := ?_)
  apply brAnd 4 50 54 (by exact rfl)
  · intro hb4
    refine un (h := ?_)
    refine WL.y (hy := mv) (h := ?_)
    refine un (h := ?_)
    refine WL.y (hy := lenS) (h := ?_)
    refine un (h := ?_)
    refine WL.y (hy := eql) (h := ?_)
    refine WL.y (hy := (by first | exact pkT | exact pkF)) (h := ?_)
    exact mg (by repeat (first | exact trivial | refine ⟨rfl, ?_⟩ | refine ⟨by rw [hb4]; rfl, ?_⟩)) (by repeat (first | exact SubL.nil | (apply SubL.cons; (repeat (first | exact At.here | apply At.there))) | exact SubL.refl _ | apply SubL.skip))
  · intro hb4
    repeat (first | refine un (h := ?_) | refine sk (h := ?_) | refine WL.y (hy := pkF) (h := ?_) | refine WL.y (hy := pkT) (h := ?_))
    exact mg (by repeat (first | exact trivial | refine ⟨rfl, ?_⟩ | refine ⟨by rw [hb4]; rfl, ?_⟩)) (by repeat (first | exact SubL.nil | (apply SubL.cons; (repeat (first | exact At.here | apply At.there))) | exact SubL.refl _ | apply SubL.skip))
  refine WL.y (hy := asg) (h := ?_)
  refine nl (h := ?_)
  refine q_seq (h := ?_)
  refine rtn (h := ?_)
  refine q_ret (hR := ?_)
  exact fun w hS => ⟨rfl, hS.sub (by repeat (first | exact SubL.nil | (apply SubL.cons; (repeat (first | exact At.here | apply At.there))) | exact SubL.refl _ | apply SubL.skip))⟩
theorem playTo_take {f : Fmt} {first : Int} {xs : List Int} {n : Nat} : ∀ {k : Nat}, k ≤ n → playTo f first (xs.take n) k = playTo f first xs k
  | 0, _ => rfl
  | k + 1, hk => by rw [playTo, playTo, playTo_take (n := n) (k := k) (by omega), List.getElem?_take, if_pos (by omega)]
theorem play_part {f : Fmt} {first : Int} {ps : List Int} {m : MS} (h : playO f first ps = some m) {k : Nat} (hk : k ≤ ps.length) : ∃ m', playO f first (ps.take k) = some m' ∧ playTo f first ps k = some m' := by
  have hp : preE f first ps.length = 0 ∧ playTo f first ps ps.length = some m := by
    unfold playO at h
    cases hq : decide (preE f first ps.length = 0)
    · rw [hq] at h; cases h
    · rw [hq] at h; exact ⟨of_decide_eq_true hq, h⟩
  cases ht : playTo f first ps k with
  | none => rw [playTo_none ht hk] at hp; cases hp.2
  | some m' =>
    refine ⟨m', ?_, rfl⟩
    have hl : (ps.take k).length = k := by rw [List.length_take]; omega
    have h0 : preE f first k = 0 := by
      have h1 := hp.1
      unfold preE at h1 ⊢
      cases ha : !decide (chkF f = 0)
      · rw [ha] at h1
        cases hb : sideBad first
        · rw [hb] at h1
          rw [cond_false, cond_false] at h1 ⊢
          have h2 : ¬ (600 : Int) < ps.length := fun h2 => by rw [decide_eq_true h2] at h1; cases h1
          rw [decide_eq_false (by omega)]; rfl
        · rw [hb] at h1; cases h1
      · rw [ha] at h1
        simp only [cond_true] at h1 ⊢
        exact h1
    unfold playO
    rw [hl, h0, playTo_take (Nat.le_refl k), ht]; rfl
theorem fit_snoc {f : Fmt} {first : Int} {ps : List Int} {xs : List Nt} {x : Nt} : ∀ {j n : Nat}, j ≤ xs.length → (Fit f first ps (xs ++ [x]) j n ↔ Fit f first ps xs j n)
  | 0, n, _ => Iff.rfl
  | j + 1, n, h => by
    show (∃ y m, (xs ++ [x])[j]? = some y ∧ Fit f first ps (xs ++ [x]) j m ∧ hitV f first ps y m n) ↔ ∃ y m, xs[j]? = some y ∧ Fit f first ps xs j m ∧ hitV f first ps y m n
    rw [List.getElem?_append_left (by omega)]
    exact ⟨fun ⟨y, m, a, b, c⟩ => ⟨y, m, a, (fit_snoc (by omega)).1 b, c⟩, fun ⟨y, m, a, b, c⟩ => ⟨y, m, a, (fit_snoc (by omega)).2 b, c⟩⟩
structure TcI (f : Fmt) (cf first : Int) (ps : List Int) (k : Nat) (ys : List Nt) (ex : Bool) : Prop where
  len : ys.length ≤ 2 * k
  fit : Fit f first ps ys ys.length k
  ex : ex = true → ∀ s ∈ keyC (crowdC f cf ys), s = spS f first ps k
section
variable {f : Fmt} {cf first : Int} {ps : List Int} {k : Nat} {ys : List Nt} {ex : Bool}
theorem TcI.start (h : ex = true → cf = first) (hf : first = 0 ∨ first = 1) : TcI f cf first ps 0 [] ex := by
  refine ⟨Nat.le_refl _, rfl, fun he s hs => ?_⟩
  have e := h he
  subst e
  obtain ⟨b, hb, hc, rfl⟩ := beg_cases hs
  have : cf = b := by omega
  subst this; rfl
theorem crowd_snoc {xs : List Nt} {x : Nt} {s : Spot} : s ∈ keyC (crowdC f cf (xs ++ [x])) ↔ ∃ t, t ∈ keyC (crowdC f cf xs) ∧ Rel f x t s := by
  unfold crowdC
  rw [List.foldl_append]
  exact after_mem
theorem TcI.add (h : TcI f cf first ps k ys ex) {x : Nt} {n : Nat} (hh : hitV f first ps x k n) (hl : ys.length + 1 ≤ 2 * n) {ey : Bool} (hx : ey = true → ex = true ∧ ∀ u, Rel f x (spS f first ps k) u → u = spS f first ps n) : TcI f cf first ps n (ys ++ [x]) ey := by
  refine ⟨by rw [List.length_append]; exact hl, ?_, fun he s hs => ?_⟩
  · rw [List.length_append]
    exact ⟨x, k, by rw [List.getElem?_append_right (Nat.le_refl _), Nat.sub_self]; rfl, (fit_snoc (Nat.le_refl _)).2 h.fit, hh⟩
  · obtain ⟨h1, h2⟩ := hx he
    obtain ⟨t, ht, hr⟩ := crowd_snoc.1 hs
    rw [h.ex h1 t ht] at hr
    exact h2 s hr
theorem TcI.point (h : TcI f cf first ps k ys ex) (hk : k < ps.length) (hc : CanP f first ps) {p : Int} (hp : ps[k]? = some p) : TcI f cf first ps (k + 1) (ys ++ [⟨1, p, (0, 0)⟩]) ex := by
  have hl := h.len
  refine h.add ?_ (by omega) fun he => ⟨he, fun u hu => ?_⟩
  · unfold hitV; rw [if_pos rfl]; exact ⟨rfl, by omega, .inr hp⟩
  · unfold Rel at hu
    rw [if_pos rfl] at hu
    obtain ⟨q, hq, hs, hn⟩ := hu
    have hpq : p = q := by
      rcases hs with hs | hs
      · have := (hc k p hp).1
        have hs : p = -1 := hs
        omega
      · exact hs
    subst hpq
    rw [can_nxt hc hp] at hn
    exact (Option.some.inj hn).symm
theorem TcI.some_ (h : TcI f cf first ps k ys ex) (hk : k < ps.length) : TcI f cf first ps (k + 1) (ys ++ [⟨1, -1, (0, 0)⟩]) false := by
  have hl := h.len
  refine h.add ?_ (by omega) fun he => by cases he
  unfold hitV; rw [if_pos rfl]; exact ⟨rfl, by omega, .inl rfl⟩
theorem TcI.miss (h : TcI f cf first ps k ys ex) (hk : k < ps.length) : TcI f cf first ps (k + 1) (ys ++ [⟨2, 0, (0, 1)⟩]) false := by
  have hl := h.len
  refine h.add ?_ (by omega) fun he => by cases he
  unfold hitV
  rw [if_neg (by decide), if_pos rfl]
  exact ⟨⟨by show (k : Int) + 0 ≤ _; omega, by show _ ≤ (k : Int) + 1; omega⟩, by omega, by omega⟩
theorem TcI.call (h : TcI f cf first ps k ys ex) (hl : ys.length + 1 ≤ 2 * k) {x : Nt} (h3 : 3 ≤ x.kind) (hh : holdS f x (spS f first ps k) = true) : TcI f cf first ps k (ys ++ [x]) ex := by
  refine h.add ?_ hl fun he => ⟨he, fun u hu => ?_⟩
  · unfold hitV; rw [if_neg (by omega), if_neg (by omega)]; exact ⟨rfl, hh⟩
  · unfold Rel at hu
    rw [if_neg (by omega), if_neg (by omega)] at hu
    exact hu.1.symm
theorem one_board {xs : List Nt} {s : Spot} (h : ∀ u ∈ keyC (crowdC f cf xs), u = s) (hs : s ∈ keyC (crowdC f cf xs)) : (boardsC (keyC (crowdC f cf xs))).length = 1 := by
  obtain ⟨h1, h2⟩ := boards_facts (keyC (crowdC f cf xs))
  have hm : ∀ b, b ∈ boardsC (keyC (crowdC f cf xs)) ↔ b = brdOf s := fun b => by
    rw [h2 b]
    exact ⟨fun ⟨u, hu, e⟩ => by rw [← e, h u hu], fun e => ⟨s, hs, e.symm⟩⟩
  have : boardsC (keyC (crowdC f cf xs)) = [brdOf s] := srtB_same h1 (List.pairwise_singleton _ _) fun b => by rw [hm b, List.mem_singleton]
  rw [this]; rfl
end
end Go.Proofs.Ytncoimjgjpcipaa

namespace Go.Proofs.Ytncoimjgjpcipaa
open Go Go.RowKit

structure CZ where
  (k : Nat) (ys : List Nt) (A : Option Addr) (c : Nat) (ex : Bool)
theorem encN_snoc (ys : List Nt) (x : Nt) : encN ys ++ [x.cells] = encN (ys ++ [x]) := by unfold encN; rw [List.map_append]; rfl
theorem encI_tk (xs : List Int) (i : Nat) : encI (xs.take i) = (encI xs).take i := by unfold encI; rw [List.map_take]
set_option maxRecDepth 100000 in
set_option maxHeartbeats 1000000 in
theorem K_TopCard (f : Fmt) (first : Int) (ps ns cs : List Int) (P B C : Option Addr) (np cp nb cb nc cc : Nat) (kn : Bool) (mark : Nt) (w : World) (h : Rd w P 1 np (encI ps)) (h' : Rd w B 1 nb (encI ns)) (h'' : Rd w C 1 nc (encI cs)) (hcap : np ≤ cp) (hnp : np ≤ 9223372036854775807) (hnb : nb ≤ 9223372036854775807) (hnc : nc ≤ 9223372036854775807) :
    C0 Try.prog 9 [f.val, .agg #[.int .i64 first, .slice P np cp, .slice B nb cb, .slice C nc cc, .bool kn], mark.val] w (.bool true) := by
  have hlp : ps.length = np := by have := h.len; rwa [encI_len] at this
  have hlb : ns.length = nb := by have := h'.len; rwa [encI_len] at this
  have hlc : cs.length = nc := by have := h''.len; rwa [encI_len] at this
  refine ⟨en Try.func9 Try.ntmps9 ((((St.init w).share (e := .ro P 1 np (encI ps)) h rfl rfl rfl).share (e := .ro B 1 nb (encI ns)) h' rfl rfl rfl).share (e := .ro C 1 nc (encI cs)) h'' rfl rfl rfl) (h := fun F => ?_)⟩
  refine sq (h := ?_)
  refine rg (h := ?_)
  refine bxA (h := fun b0 => ?_)
  refine bxA (h := fun b1 => ?_)
  refine bxA (h := fun b2 => ?_)
  refine WL.y (hy := asg) (h := ?_)
  refine nl (h := ?_)
  refine q_seq (h := ?_)
  refine sq (h := ?_)
  refine sq (h := ?_)
  refine rg (h := ?_)
  refine WL.y (hy := (by first | exact fa | exact faE)) (h := ?_)
  refine WL.y (hy := (by first | exact ld | exact ldE)) (h := ?_)
  refine WL.y (hy := lenS) (h := ?_)
  refine WL.y (hy := gtr) (h := ?_)
  refine WL.y (hy := mv) (h := ?_)
  apply brOr 8 34 42 (by exact rfl)
  · intro hb0
    refine un (h := ?_)
    refine WL.y (hy := (by first | exact fa | exact faE)) (h := ?_)
    refine un (h := ?_)
    refine WL.y (hy := (by first | exact ld | exact ldE)) (h := ?_)
    refine un (h := ?_)
    refine WL.y (hy := lenS) (h := ?_)
    refine un (h := ?_)
    refine WL.y (hy := (by first | exact fa | exact faE)) (h := ?_)
    refine un (h := ?_)
    refine WL.y (hy := (by first | exact ld | exact ldE)) (h := ?_)
    refine un (h := ?_)
    refine WL.y (hy := lenS) (h := ?_)
    refine un (h := ?_)
    refine WL.y (hy := neq) (h := ?_)
    refine WL.y (hy := (by first | exact pkT | exact pkF)) (h := ?_)
    exact mg (by repeat (first | exact trivial | refine ⟨rfl, ?_⟩ | refine ⟨by rw [hb0]; rfl, ?_⟩)) (by repeat (first | exact SubL.nil | (apply SubL.cons; (repeat (first | exact At.here | apply At.there))) | exact SubL.refl _ | apply SubL.skip))
  · intro hb0
    repeat (first | refine un (h := ?_) | refine sk (h := ?_) | refine WL.y (hy := pkF) (h := ?_) | refine WL.y (hy := pkT) (h := ?_))
    exact mg (by repeat (first | exact trivial | refine ⟨rfl, ?_⟩ | refine ⟨by rw [hb0]; rfl, ?_⟩)) (by repeat (first | exact SubL.nil | (apply SubL.cons; (repeat (first | exact At.here | apply At.there))) | exact SubL.refl _ | apply SubL.skip))
  refine WL.y (hy := mv) (h := ?_)
  apply brOr 8 43 51 (by exact rfl)
  · intro hb1
    refine un (h := ?_)
    refine WL.y (hy := (by first | exact fa | exact faE)) (h := ?_)
    refine un (h := ?_)
    refine WL.y (hy := (by first | exact ld | exact ldE)) (h := ?_)
    refine un (h := ?_)
    refine WL.y (hy := lenS) (h := ?_)
    refine un (h := ?_)
    refine WL.y (hy := (by first | exact fa | exact faE)) (h := ?_)
    refine un (h := ?_)
    refine WL.y (hy := (by first | exact ld | exact ldE)) (h := ?_)
    refine un (h := ?_)
    refine WL.y (hy := lenS) (h := ?_)
    refine un (h := ?_)
    refine WL.y (hy := neq) (h := ?_)
    refine WL.y (hy := (by first | exact pkT | exact pkF)) (h := ?_)
    exact mg (by repeat (first | exact trivial | refine ⟨rfl, ?_⟩ | refine ⟨by rw [hb1]; rfl, ?_⟩)) (by repeat (first | exact SubL.nil | (apply SubL.cons; (repeat (first | exact At.here | apply At.there))) | exact SubL.refl _ | apply SubL.skip))
  · intro hb1
    repeat (first | refine un (h := ?_) | refine sk (h := ?_) | refine WL.y (hy := pkF) (h := ?_) | refine WL.y (hy := pkT) (h := ?_))
    exact mg (by repeat (first | exact trivial | refine ⟨rfl, ?_⟩ | refine ⟨by rw [hb1]; rfl, ?_⟩)) (by repeat (first | exact SubL.nil | (apply SubL.cons; (repeat (first | exact At.here | apply At.there))) | exact SubL.refl _ | apply SubL.skip))
  refine nl (h := ?_)
  refine q_seq (h := ?_)
  refine cd (by exact rfl) (fun h2 => ?_) (fun h2 => ?_)
  · skip
    refine sq (h := ?_)
    refine rg (h := ?_)
    refine cl0 (hc := fun w hS => C_top_carded w) (h := ?_)
    refine WL.y (hy := asg) (h := ?_)
    refine nl (h := ?_)
    refine q_seq (h := ?_)
    refine rtn (h := ?_)
    refine q_then_ret (h := ?_)
    refine q_ret (hR := ?_)
    first
      | exact fun w hS => ⟨rfl, hS.sub (by repeat (first | exact SubL.nil | (apply SubL.cons; (repeat (first | exact At.here | apply At.there))) | exact SubL.refl _ | apply SubL.skip))⟩
      | (refine fun w hS => ⟨?_, hS.sub (by repeat (first | exact SubL.nil | (apply SubL.cons; (repeat (first | exact At.here | apply At.there))) | exact SubL.refl _ | apply SubL.skip))⟩
         clear hS
         simp only [decide_true, Bool.true_and, Bool.and_true]
         rw [hfin]; rfl)
  · skip
    have h0 := h2
    simp only [Bool.or_eq_false_iff, Bool.not_eq_false', decide_eq_true_eq, decide_eq_false_iff_not] at h0
    have hn12 : np ≤ 12 := by omega
    have hnb2 : nb = np := by omega
    have hnc2 : nc = np := by omega
    refine skp (h := ?_)
    refine q_seq (h := ?_)
    refine sq (h := ?_)
    refine sq (h := ?_)
    refine rg (h := ?_)
    refine WL.y (hy := (by first | exact ldA | exact ldEA)) (h := ?_)
    refine WL.y (hy := (by first | exact fa | exact faE)) (h := ?_)
    refine WL.y (hy := (by first | exact ld | exact ldE)) (h := ?_)
    refine WL.y (hy := (by first | exact fa | exact faE)) (h := ?_)
    refine WL.y (hy := (by first | exact ld | exact ldE)) (h := ?_)
    refine cl (hc := fun w hS => C_ref1_Run f first ps P np cp w (hS.get (by repeat (first | exact Rds.ro | exact Rds.own | apply Rds.there))) hnp) (h := fun ru _ => ?_)
    refine WL.y (hy := mv) (h := ?_)
    refine WL.y (hy := ex) (h := ?_)
    refine WL.y (hy := ex) (h := ?_)
    refine al (h := fun b3 => ?_)
    first | refine stA (h := ?_) | refine stEA (h := ?_)
    refine WL.y (hy := asg) (h := ?_)
    refine nl (h := ?_)
    refine q_seq (h := ?_)
    refine sq (h := ?_)
    refine rg (h := ?_)
    refine WL.y (hy := mv) (h := ?_)
    refine WL.y (hy := neq) (h := ?_)
    refine nl (h := ?_)
    refine q_seq (h := ?_)
    refine cd (by exact rfl) (fun h3 => ?_) (fun h3 => ?_)
    · skip
      refine sq (h := ?_)
      refine rg (h := ?_)
      refine cl0 (hc := fun w hS => C_top_carded w) (h := ?_)
      refine WL.y (hy := asg) (h := ?_)
      refine nl (h := ?_)
      refine q_seq (h := ?_)
      refine rtn (h := ?_)
      refine q_then_ret (h := ?_)
      refine q_ret (hR := ?_)
      first
        | exact fun w hS => ⟨rfl, hS.sub (by repeat (first | exact SubL.nil | (apply SubL.cons; (repeat (first | exact At.here | apply At.there))) | exact SubL.refl _ | apply SubL.skip))⟩
        | (refine fun w hS => ⟨?_, hS.sub (by repeat (first | exact SubL.nil | (apply SubL.cons; (repeat (first | exact At.here | apply At.there))) | exact SubL.refl _ | apply SubL.skip))⟩
           clear hS
           simp only [decide_true, Bool.true_and, Bool.and_true]
           rw [hfin]; rfl)
    · skip
      have hpE : playE f first ps = 0 := by simpa using h3
      obtain ⟨m, hm⟩ : ∃ m, playO f first ps = some m := by
        cases hq : playO f first ps with
        | none => exact absurd hpE (playE_none hq)
        | some m => exact ⟨m, rfl⟩
      have hpl := play_some hm
      have hf := hpl.ok
      have hfs := hpl.fst
      have hCan := (play_can hf hpl.to).1
      refine skp (h := ?_)
      refine q_seq (h := ?_)
      refine sq (h := ?_)
      skip
      refine rg (h := ?_)
      refine WL.y (hy := (by first | exact ldA | exact ldEA)) (h := ?_)
      refine WL.y (hy := bd) (h := ?_)
      refine al (h := fun b4 => ?_)
      first | refine stA (h := ?_) | refine stEA (h := ?_)
      refine nl (h := ?_)
      refine q_seq (h := ?_)
      refine ct (X := Int) (fun cf => cf = if kn = true then first else -1) (fun _ => [(3, .pointer (some ⟨b0, 0, none⟩)), (4, .pointer (some ⟨b1, 0, none⟩)), (5, .pointer (some ⟨b2, 0, none⟩)), (9, .pointer (some ⟨b4, 0, none⟩))]) (fun cf => [.blk b4 26 (cardC f cf none 0 0), .blk b1 70 [.int .i64 first, .slice P np cp, .slice B nb cb, .slice C nc cc, .bool kn], .blk b0 23 f.cells, .blk b2 40 mark.cells, .ro P 1 np (encI ps), .ro B 1 nb (encI ns), .ro C 1 nc (encI cs)]) (h1 := ?_) (h2 := ?_)
      · skip
        refine sq (h := ?_)
        refine rg (h := ?_)
        refine WL.y (hy := (by first | exact fa | exact faE)) (h := ?_)
        refine WL.y (hy := (by first | exact ld | exact ldE)) (h := ?_)
        refine nl (h := ?_)
        refine q_seq (h := ?_)
        refine cd (by exact rfl) (fun h4 => ?_) (fun h4 => ?_)
        · skip
          have hkn : kn = true := h4
          refine rg (h := ?_)
          refine WL.y (hy := (by first | exact fa | exact faE)) (h := ?_)
          refine WL.y (hy := (by first | exact ld | exact ldE)) (h := ?_)
          refine WL.y (hy := (by first | exact fa | exact faE)) (h := ?_)
          first | refine st (h := ?_) | refine stE (h := ?_)
          refine nl (h := ?_)
          exact ctn _ (by first | rw [if_pos hkn] | rw [if_neg hkn]) (by repeat (first | exact trivial | refine ⟨rfl, ?_⟩)) (by repeat (first | exact SubL.nil | (apply SubL.cons; (repeat (first | exact At.here | apply At.there))) | exact SubL.refl _ | apply SubL.skip))
        · skip
          have hkn : ¬ kn = true := by have g9 : kn = false := h4; rw [g9]; decide
          refine skp (h := ?_)
          exact ctn _ (by first | rw [if_pos hkn] | rw [if_neg hkn]) (by repeat (first | exact trivial | refine ⟨rfl, ?_⟩)) (by repeat (first | exact SubL.nil | (apply SubL.cons; (repeat (first | exact At.here | apply At.there))) | exact SubL.refl _ | apply SubL.skip))
      rintro cf hcf
      refine sq (h := ?_)
      refine rg (h := ?_)
      refine WL.y (hy := (by first | exact fa | exact faE)) (h := ?_)
      refine WL.y (hy := (by first | exact ld | exact ldE)) (h := ?_)
      refine WL.y (hy := asg) (h := ?_)
      refine WL.cut (by repeat (first | exact Cut.nil | apply Cut.hit | apply Cut.miss (by exact rfl))) ?_
      refine nl (h := ?_)
      refine q_seq (h := ?_)
      refine sq (h := ?_)
      refine sq (h := ?_)
      refine WC.nilOwn 40 4 (h := ?_)
      refine rg (h := ?_)
      refine WL.y (hy := asg) (h := ?_)
      refine WL.cut (by repeat (first | exact Cut.nil | apply Cut.hit | apply Cut.miss (by exact rfl))) ?_
      refine nl (h := ?_)
      refine q_seq (h := ?_)
      refine bk (h := ?_)
      refine lp (X := CZ) (I := fun z => z.k ≤ np ∧ TcI f cf first ps z.k z.ys z.ex ∧ (z.ex = true → kn = true)) (le := fun z => [(3, .pointer (some ⟨b0, 0, none⟩)), (4, .pointer (some ⟨b1, 0, none⟩)), (5, .pointer (some ⟨b2, 0, none⟩)), (9, .pointer (some ⟨b4, 0, none⟩)), (10, .bool z.ex), (11, .int .i64 z.k)]) (Le := fun z => [.blk b4 26 (cardC f cf z.A z.ys.length z.c), .own z.A z.c 40 4 z.ys.length (encN z.ys), .blk b1 70 [.int .i64 first, .slice P np cp, .slice B nb cb, .slice C nc cc, .bool kn], .blk b0 23 f.cells, .blk b2 40 mark.cells, .ro P 1 np (encI ps), .ro B 1 nb (encI ns), .ro C 1 nc (encI cs)]) (μ := fun z => np - z.k) ⟨0, [], none, 0, kn⟩ ⟨Nat.zero_le _, TcI.start (fun e => by rw [hcf, if_pos e]) hfs, fun e => e⟩ (by repeat (first | exact trivial | refine ⟨rfl, ?_⟩)) (by repeat (first | exact SubL.nil | (apply SubL.cons; (repeat (first | exact At.here | apply At.there))) | exact SubL.refl _ | apply SubL.skip)) (fun z hz => ?_)
      obtain ⟨hzk, hzI, hzk2⟩ := hz
      refine sq (h := ?_)
      refine sq (h := ?_)
      refine rg (h := ?_)
      refine WL.y (hy := mv) (h := ?_)
      refine WL.y (hy := (by first | exact fa | exact faE)) (h := ?_)
      refine WL.y (hy := (by first | exact ld | exact ldE)) (h := ?_)
      refine WL.y (hy := lenS) (h := ?_)
      refine WL.y (hy := lss) (h := ?_)
      refine nl (h := ?_)
      refine q_seq (h := ?_)
      refine cd (by exact rfl) (fun h5 => ?_) (fun h5 => ?_)
      · skip
        have hzn : z.k < np := by have := of_decide_eq_true h5; omega
        obtain ⟨pv1, hp⟩ : ∃ p, ps[z.k]? = some p := ⟨_, List.getElem?_eq_getElem (by omega)⟩
        have hpe := encI_at hp
        obtain ⟨v1, hv⟩ : ∃ p, ns[z.k]? = some p := ⟨_, List.getElem?_eq_getElem (by omega)⟩
        have hve := encI_at hv
        obtain ⟨cv, hcv⟩ : ∃ p, cs[z.k]? = some p := ⟨_, List.getElem?_eq_getElem (by omega)⟩
        have hce := encI_at hcv
        obtain ⟨m1, hm1, hm1t⟩ := play_part hm (k := z.k + 1) (by omega)
        have hm1b := playTo_bd hf hfs (by omega) hm1t
        have hm1l : m1.st.length ≤ 1000000 := by have := hm1b.s; omega
        have hzlen := hzI.len
        refine skp (h := ?_)
        refine q_seq (h := ?_)
        refine sq (h := ?_)
        refine bk (h := ?_)
        refine ct (X := CZ) (fun y => y.k = z.k ∧ TcI f cf first ps (z.k + 1) y.ys y.ex ∧ y.ys.length = z.ys.length + 1 ∧ (y.ex = true → kn = true)) (fun y => [(3, .pointer (some ⟨b0, 0, none⟩)), (4, .pointer (some ⟨b1, 0, none⟩)), (5, .pointer (some ⟨b2, 0, none⟩)), (9, .pointer (some ⟨b4, 0, none⟩)), (10, .bool y.ex), (11, .int .i64 z.k)]) (fun y => [.blk b4 26 (cardC f cf y.A y.ys.length y.c), .own y.A y.c 40 4 y.ys.length (encN y.ys), .blk b1 70 [.int .i64 first, .slice P np cp, .slice B nb cb, .slice C nc cc, .bool kn], .blk b0 23 f.cells, .blk b2 40 mark.cells, .ro P 1 np (encI ps), .ro B 1 nb (encI ns), .ro C 1 nc (encI cs)]) (h1 := ?_) (h2 := ?_)
        · skip
          refine sq (h := ?_)
          refine rg (h := ?_)
          refine WL.y (hy := (by first | exact fa | exact faE)) (h := ?_)
          refine WL.y (hy := (by first | exact ld | exact ldE)) (h := ?_)
          refine WL.y (hy := mv) (h := ?_)
          refine WL.y (hy := ix (A := B) (m := nb) (hb := by omega)) (h := ?_)
          refine WL.y (hy := ldE (A := B) (hk := hve)) (h := ?_)
          refine nl (h := ?_)
          refine q_seq (h := ?_)
          refine bk (h := ?_)
          refine sq (h := ?_)
          refine rg (h := ?_)
          refine WL.y (hy := eql) (h := ?_)
          refine WL.y (hy := asg) (h := ?_)
          refine nl (h := ?_)
          refine q_seq (h := ?_)
          refine cd (by exact rfl) (fun h6 => ?_) (fun h6 => ?_)
          · skip
            have hw1 : v1 = 0 := of_decide_eq_true h6
            refine rgD (by kernel_rfl) [(11, .blk b4 26 (cardC f cf z.A z.ys.length z.c)), (1000000, .blk b1 70 [.int .i64 first, .slice P np cp, .slice B nb cb, .slice C nc cc, .bool kn]), (1000000, .ro P 1 np (encI ps))] (by repeat (first | exact HS.nil | (apply HS.keep; (repeat (first | exact At.here | apply At.there))) | (apply HS.ro; (repeat (first | exact Rds.ro | exact Rds.own | apply Rds.there))))) (h := ?_)
            refine tk 0 (hy := (by first | exact fa | exact faE)) (h := ?_)
            refine tk 1 (hy := (by first | exact ld | exact ldE)) (h := ?_)
            refine tk 2 (hy := (by first | exact fa | exact faE)) (h := ?_)
            refine tk 3 (hy := (by first | exact ld | exact ldE)) (h := ?_)
            refine tk 4 (hy := mv) (h := ?_)
            refine tk 5 (hy := ix (A := P) (m := np) (hb := by omega)) (h := ?_)
            refine tk 6 (hy := ldE (A := P) (hk := hpe)) (h := ?_)
            refine tk 7 (hy := bd) (h := ?_)
            refine one 8 (h := ?_)
            refine bs (h := fun b5 => ?_)
            refine nx (h := ?_)
            refine one 9 (h := ?_)
            refine ap (es := encN z.ys) (m := z.ys.length) (k := 1) (A := z.A) (c := z.c) (h := fun A1 c1 => ?_)
            rw [show encN z.ys ++ [_] = encN (z.ys ++ [⟨_, _, (_, _)⟩]) from encN_snoc z.ys ⟨_, _, (_, _)⟩]
            refine nx (h := ?_)
            refine tk 10 (hy := (by first | exact fa | exact faE)) (h := ?_)
            refine one 11 (h := ?_)
            first | refine st (h := ?_) | refine stE (h := ?_)
            refine nx (h := ?_)
            refine dn (h := ?_)
            refine q_blk_norm (h := ?_)
            first
              | exact ctn ⟨z.k, z.ys ++ [⟨1, pv1, (0, 0)⟩], A1, c1, z.ex⟩ ⟨rfl, (fun (_ : v1 = 0) => hzI.point (by omega) hCan hp) hw1, List.length_append, hzk2⟩ (by repeat (first | exact trivial | refine ⟨rfl, ?_⟩)) (by rw [List.length_append]; exact (by repeat (first | exact SubL.nil | (apply SubL.cons; (repeat (first | exact At.here | apply At.there))) | exact SubL.refl _ | apply SubL.skip)))
              | exact ctn ⟨z.k, z.ys ++ [⟨1, -1, (0, 0)⟩], A1, c1, false⟩ ⟨rfl, (fun (_ : v1 = 1) => hzI.some_ (by omega)) hw2, List.length_append, fun e => (by cases e)⟩ (by repeat (first | exact trivial | refine ⟨rfl, ?_⟩)) (by rw [List.length_append]; exact (by repeat (first | exact SubL.nil | (apply SubL.cons; (repeat (first | exact At.here | apply At.there))) | exact SubL.refl _ | apply SubL.skip)))
              | exact ctn ⟨z.k, z.ys ++ [⟨2, 0, (0, 1)⟩], A1, c1, false⟩ ⟨rfl, (fun (_ : ¬ v1 = 1) => hzI.miss (by omega)) hw3, List.length_append, fun e => (by cases e)⟩ (by repeat (first | exact trivial | refine ⟨rfl, ?_⟩)) (by rw [List.length_append]; exact (by repeat (first | exact SubL.nil | (apply SubL.cons; (repeat (first | exact At.here | apply At.there))) | exact SubL.refl _ | apply SubL.skip)))
          · skip
            refine sq (h := ?_)
            refine rg (h := ?_)
            refine WL.y (hy := eql) (h := ?_)
            refine WL.y (hy := asg) (h := ?_)
            refine nl (h := ?_)
            refine q_seq (h := ?_)
            refine cd (by exact rfl) (fun h7 => ?_) (fun h7 => ?_)
            · skip
              have hw2 : v1 = 1 := of_decide_eq_true h7
              refine sq (h := ?_)
              refine rg (h := ?_)
              refine WL.y (hy := (by first | exact fa | exact faE)) (h := ?_)
              refine WL.y (hy := (by first | exact ld | exact ldE)) (h := ?_)
              refine WL.y (hy := bd) (h := ?_)
              refine bs (h := fun b6 => ?_)
              refine ap (es := encN z.ys) (m := z.ys.length) (k := 1) (A := z.A) (c := z.c) (h := fun A1 c1 => ?_)
              rw [show encN z.ys ++ [_] = encN (z.ys ++ [⟨_, _, (_, _)⟩]) from encN_snoc z.ys ⟨_, _, (_, _)⟩]
              refine WL.y (hy := (by first | exact fa | exact faE)) (h := ?_)
              first | refine st (h := ?_) | refine stE (h := ?_)
              refine nl (h := ?_)
              refine q_seq (h := ?_)
              refine rg (h := ?_)
              refine WL.y (hy := asg) (h := ?_)
              refine WL.cut (by repeat (first | exact Cut.nil | apply Cut.hit | apply Cut.miss (by exact rfl))) ?_
              refine nl (h := ?_)
              refine q_blk_norm (h := ?_)
              first
                | exact ctn ⟨z.k, z.ys ++ [⟨1, pv1, (0, 0)⟩], A1, c1, z.ex⟩ ⟨rfl, (fun (_ : v1 = 0) => hzI.point (by omega) hCan hp) hw1, List.length_append, hzk2⟩ (by repeat (first | exact trivial | refine ⟨rfl, ?_⟩)) (by rw [List.length_append]; exact (by repeat (first | exact SubL.nil | (apply SubL.cons; (repeat (first | exact At.here | apply At.there))) | exact SubL.refl _ | apply SubL.skip)))
                | exact ctn ⟨z.k, z.ys ++ [⟨1, -1, (0, 0)⟩], A1, c1, false⟩ ⟨rfl, (fun (_ : v1 = 1) => hzI.some_ (by omega)) hw2, List.length_append, fun e => (by cases e)⟩ (by repeat (first | exact trivial | refine ⟨rfl, ?_⟩)) (by rw [List.length_append]; exact (by repeat (first | exact SubL.nil | (apply SubL.cons; (repeat (first | exact At.here | apply At.there))) | exact SubL.refl _ | apply SubL.skip)))
                | exact ctn ⟨z.k, z.ys ++ [⟨2, 0, (0, 1)⟩], A1, c1, false⟩ ⟨rfl, (fun (_ : ¬ v1 = 1) => hzI.miss (by omega)) hw3, List.length_append, fun e => (by cases e)⟩ (by repeat (first | exact trivial | refine ⟨rfl, ?_⟩)) (by rw [List.length_append]; exact (by repeat (first | exact SubL.nil | (apply SubL.cons; (repeat (first | exact At.here | apply At.there))) | exact SubL.refl _ | apply SubL.skip)))
            · skip
              have hw3 : ¬ v1 = 1 := of_decide_eq_false h7
              refine sq (h := ?_)
              refine rg (h := ?_)
              refine WL.y (hy := (by first | exact fa | exact faE)) (h := ?_)
              refine WL.y (hy := (by first | exact ld | exact ldE)) (h := ?_)
              refine WL.y (hy := bd) (h := ?_)
              refine WL.y (hy := bd) (h := ?_)
              refine bs (h := fun b7 => ?_)
              refine ap (es := encN z.ys) (m := z.ys.length) (k := 1) (A := z.A) (c := z.c) (h := fun A1 c1 => ?_)
              rw [show encN z.ys ++ [_] = encN (z.ys ++ [⟨_, _, (_, _)⟩]) from encN_snoc z.ys ⟨_, _, (_, _)⟩]
              refine WL.y (hy := (by first | exact fa | exact faE)) (h := ?_)
              first | refine st (h := ?_) | refine stE (h := ?_)
              refine nl (h := ?_)
              refine q_seq (h := ?_)
              refine rg (h := ?_)
              refine WL.y (hy := asg) (h := ?_)
              refine WL.cut (by repeat (first | exact Cut.nil | apply Cut.hit | apply Cut.miss (by exact rfl))) ?_
              refine nl (h := ?_)
              refine q_blk_norm (h := ?_)
              first
                | exact ctn ⟨z.k, z.ys ++ [⟨1, pv1, (0, 0)⟩], A1, c1, z.ex⟩ ⟨rfl, (fun (_ : v1 = 0) => hzI.point (by omega) hCan hp) hw1, List.length_append, hzk2⟩ (by repeat (first | exact trivial | refine ⟨rfl, ?_⟩)) (by rw [List.length_append]; exact (by repeat (first | exact SubL.nil | (apply SubL.cons; (repeat (first | exact At.here | apply At.there))) | exact SubL.refl _ | apply SubL.skip)))
                | exact ctn ⟨z.k, z.ys ++ [⟨1, -1, (0, 0)⟩], A1, c1, false⟩ ⟨rfl, (fun (_ : v1 = 1) => hzI.some_ (by omega)) hw2, List.length_append, fun e => (by cases e)⟩ (by repeat (first | exact trivial | refine ⟨rfl, ?_⟩)) (by rw [List.length_append]; exact (by repeat (first | exact SubL.nil | (apply SubL.cons; (repeat (first | exact At.here | apply At.there))) | exact SubL.refl _ | apply SubL.skip)))
                | exact ctn ⟨z.k, z.ys ++ [⟨2, 0, (0, 1)⟩], A1, c1, false⟩ ⟨rfl, (fun (_ : ¬ v1 = 1) => hzI.miss (by omega)) hw3, List.length_append, fun e => (by cases e)⟩ (by repeat (first | exact trivial | refine ⟨rfl, ?_⟩)) (by rw [List.length_append]; exact (by repeat (first | exact SubL.nil | (apply SubL.cons; (repeat (first | exact At.here | apply At.there))) | exact SubL.refl _ | apply SubL.skip)))
        rintro y ⟨-, hyI, hyl, hyk⟩
        refine ct (X := Nat × Option Addr × Nat) (fun _ => True) (fun g => [(3, .pointer (some ⟨b0, 0, none⟩)), (4, .pointer (some ⟨b1, 0, none⟩)), (5, .pointer (some ⟨b2, 0, none⟩)), (9, .pointer (some ⟨b4, 0, none⟩)), (10, .bool y.ex), (11, .int .i64 z.k), (12, .pointer (some ⟨g.1, 0, none⟩)), (13, .int .i64 0)]) (fun g => [.blk g.1 55 (m1.sc.cells g.2.1 g.2.2), .own g.2.1 g.2.2 38 2 m1.st.length (encP m1.st), .blk b4 26 (cardC f cf y.A y.ys.length y.c), .own y.A y.c 40 4 y.ys.length (encN y.ys), .blk b1 70 [.int .i64 first, .slice P np cp, .slice B nb cb, .slice C nc cc, .bool kn], .blk b0 23 f.cells, .blk b2 40 mark.cells, .ro P 1 np (encI ps), .ro B 1 nb (encI ns), .ro C 1 nc (encI cs)]) (h1 := ?_) (h2 := ?_)
        · skip
          refine WC.pre (A := P) (m := np) (by repeat (first | exact At.here | apply At.there)) (z.k + 1) (by omega) ?_
          refine rgD (by kernel_rfl) [(1000000, .blk b0 23 f.cells), (1000000, .blk b1 70 [.int .i64 first, .slice P np cp, .slice B nb cb, .slice C nc cc, .bool kn]), (1000000, .ro P 1 np (encI ps))] (by repeat (first | exact HS.nil | (apply HS.keep; (repeat (first | exact At.here | apply At.there))) | (apply HS.ro; (repeat (first | exact Rds.ro | exact Rds.own | apply Rds.there))))) (h := ?_)
          refine tk 0 (hy := (by first | exact ldA | exact ldEA)) (h := ?_)
          refine tk 1 (hy := (by first | exact fa | exact faE)) (h := ?_)
          refine tk 2 (hy := (by first | exact ld | exact ldE)) (h := ?_)
          refine tk 3 (hy := (by first | exact fa | exact faE)) (h := ?_)
          refine tk 4 (hy := (by first | exact ld | exact ldE)) (h := ?_)
          refine tk 5 (hy := mv) (h := ?_)
          refine tk 6 (hy := addI (hb := by omega)) (h := ?_)
          refine tk 7 (hy := slP (A := P) (m := np) (cap := cp) (hi' := z.k + 1) (hh := by exact rfl) (hc := by omega)) (h := ?_)
          refine two 8 12 (h1 := ?_) (h2 := ?_)
          · skip
            refine cl (hc := fun w hS => C_score_Play f first (ps.take (z.k + 1)) P (z.k + 1) cp w (by rw [encI_tk]; exact (hS.get (by repeat (first | exact Rds.ro | exact Rds.own | apply Rds.there)))) (by omega)) (h := fun u _ => ?_)
            rw [playE_some hm1, hm1]
            refine nx (h := ?_)
            refine tk 9 (hy := mv) (h := ?_)
            refine tk 10 (hy := ex) (h := ?_)
            refine tk 11 (hy := ex) (h := ?_)
            refine one 12 (h := ?_)
            refine al (h := fun b8 => ?_)
            refine nx (h := ?_)
            refine one 13 (h := ?_)
            first | refine stA (h := ?_) | refine stEA (h := ?_)
            refine nx (h := ?_)
            refine tk 14 (hy := asg) (h := ?_)
            refine dn (h := ?_)
            exact ctn (_, u) trivial (by repeat (first | exact trivial | refine ⟨rfl, ?_⟩)) (by repeat (first | exact SubL.nil | (apply SubL.cons; (repeat (first | exact At.here | apply At.there))) | exact SubL.refl _ | apply SubL.skip))
          · skip
            refine al (h := fun b9 => ?_)
            refine nx (h := ?_)
            refine one 8 (h := ?_)
            refine cl (hc := fun w hS => C_score_Play f first (ps.take (z.k + 1)) P (z.k + 1) cp w (by rw [encI_tk]; exact (hS.get (by repeat (first | exact Rds.ro | exact Rds.own | apply Rds.there)))) (by omega)) (h := fun u _ => ?_)
            rw [playE_some hm1, hm1]
            refine nx (h := ?_)
            refine tk 9 (hy := mv) (h := ?_)
            refine tk 10 (hy := ex) (h := ?_)
            refine tk 11 (hy := ex) (h := ?_)
            refine one 13 (h := ?_)
            first | refine stA (h := ?_) | refine stEA (h := ?_)
            refine nx (h := ?_)
            refine tk 14 (hy := asg) (h := ?_)
            refine dn (h := ?_)
            exact ctn (_, u) trivial (by repeat (first | exact trivial | refine ⟨rfl, ?_⟩)) (by repeat (first | exact SubL.nil | (apply SubL.cons; (repeat (first | exact At.here | apply At.there))) | exact SubL.refl _ | apply SubL.skip))
        rintro ⟨bS, u⟩ -
        refine sq (h := ?_)
        refine sq (h := ?_)
        refine rg (h := ?_)
        refine WL.y (hy := mv) (h := ?_)
        refine WL.y (hy := neq) (h := ?_)
        refine nl (h := ?_)
        refine q_seq (h := ?_)
        refine cd (by exact rfl) (fun h8 => ?_) (fun h8 => ?_)
        · skip
          have h0 := h8
          cases h0
        · skip
          refine skp (h := ?_)
          refine q_seq (h := ?_)
          refine ct (X := Nat) (fun _ => True) (fun g => [(3, .pointer (some ⟨b0, 0, none⟩)), (4, .pointer (some ⟨b1, 0, none⟩)), (5, .pointer (some ⟨b2, 0, none⟩)), (9, .pointer (some ⟨b4, 0, none⟩)), (10, .bool y.ex), (11, .int .i64 z.k), (14, .pointer (some ⟨g, 0, none⟩)), (15, .bool (calB m1.sc cv))]) (fun g => [.blk g 40 (calN m1.sc cv).cells, .blk b4 26 (cardC f cf y.A y.ys.length y.c), .own y.A y.c 40 4 y.ys.length (encN y.ys), .blk b1 70 [.int .i64 first, .slice P np cp, .slice B nb cb, .slice C nc cc, .bool kn], .blk b0 23 f.cells, .blk b2 40 mark.cells, .ro P 1 np (encI ps), .ro B 1 nb (encI ns), .ro C 1 nc (encI cs)]) (h1 := ?_) (h2 := ?_)
          · skip
            refine rgD (by kernel_rfl) [(1000000, .blk b1 70 [.int .i64 first, .slice P np cp, .slice B nb cb, .slice C nc cc, .bool kn]), (1000000, .ro C 1 nc (encI cs)), (1000000, .blk bS 55 (m1.sc.cells u.1 u.2))] (by repeat (first | exact HS.nil | (apply HS.keep; (repeat (first | exact At.here | apply At.there))) | (apply HS.ro; (repeat (first | exact Rds.ro | exact Rds.own | apply Rds.there))))) (h := ?_)
            refine tk 0 (hy := (by first | exact ldA | exact ldEA)) (h := ?_)
            refine tk 1 (hy := (by first | exact fa | exact faE)) (h := ?_)
            refine tk 2 (hy := (by first | exact ld | exact ldE)) (h := ?_)
            refine tk 3 (hy := mv) (h := ?_)
            refine tk 4 (hy := ix (A := C) (m := nc) (hb := by omega)) (h := ?_)
            refine tk 5 (hy := ldE (A := C) (hk := hce)) (h := ?_)
            refine two 6 10 (h1 := ?_) (h2 := ?_)
            · skip
              refine cl0 (hc := fun w hS => C_top_called m1.sc u.1 u.2 cv w (hS.get (by repeat (first | exact Rds.ro | exact Rds.own | apply Rds.there))) hm1l) (h := ?_)
              refine nx (h := ?_)
              refine tk 7 (hy := mv) (h := ?_)
              refine tk 8 (hy := ex) (h := ?_)
              refine tk 9 (hy := ex) (h := ?_)
              refine one 10 (h := ?_)
              refine al (h := fun b10 => ?_)
              refine nx (h := ?_)
              refine one 11 (h := ?_)
              first | refine stA (h := ?_) | refine stEA (h := ?_)
              refine nx (h := ?_)
              refine tk 12 (hy := asg) (h := ?_)
              refine dn (h := ?_)
              exact ctn _ trivial (by repeat (first | exact trivial | refine ⟨rfl, ?_⟩)) (by repeat (first | exact SubL.nil | (apply SubL.cons; (repeat (first | exact At.here | apply At.there))) | exact SubL.refl _ | apply SubL.skip))
            · skip
              refine al (h := fun b11 => ?_)
              refine nx (h := ?_)
              refine one 6 (h := ?_)
              refine cl0 (hc := fun w hS => C_top_called m1.sc u.1 u.2 cv w (hS.get (by repeat (first | exact Rds.ro | exact Rds.own | apply Rds.there))) hm1l) (h := ?_)
              refine nx (h := ?_)
              refine tk 7 (hy := mv) (h := ?_)
              refine tk 8 (hy := ex) (h := ?_)
              refine tk 9 (hy := ex) (h := ?_)
              refine one 11 (h := ?_)
              first | refine stA (h := ?_) | refine stEA (h := ?_)
              refine nx (h := ?_)
              refine tk 12 (hy := asg) (h := ?_)
              refine dn (h := ?_)
              exact ctn _ trivial (by repeat (first | exact trivial | refine ⟨rfl, ?_⟩)) (by repeat (first | exact SubL.nil | (apply SubL.cons; (repeat (first | exact At.here | apply At.there))) | exact SubL.refl _ | apply SubL.skip))
          rintro bN -
          refine sq (h := ?_)
          refine rg (h := ?_)
          refine WL.y (hy := mv) (h := ?_)
          refine nl (h := ?_)
          refine q_seq (h := ?_)
          refine cd (by exact rfl) (fun h9 => ?_) (fun h9 => ?_)
          · skip
            have hcB : calB m1.sc cv = true := h9
            obtain ⟨g1, g2, g3⟩ := cal_tst hcB
            have hm1i := playTo_inv hf hm1t
            have hcall := hyI.call (by omega) g2 (by rw [← (play_spot hf hm1t).1, ← tst_hold hm1i.1 (playTo_rch hf hm1t) (by rw [hm1i.2.1]; omega) ⟨g2, g3⟩]; exact g1)
            refine rg (h := ?_)
            refine WL.y (hy := (by first | exact fa | exact faE)) (h := ?_)
            refine WL.y (hy := (by first | exact ld | exact ldE)) (h := ?_)
            refine WL.y (hy := (by first | exact ldA | exact ldEA)) (h := ?_)
            refine bs (h := fun b12 => ?_)
            refine ap (es := encN y.ys) (m := y.ys.length) (k := 1) (A := y.A) (c := y.c) (h := fun A2 c2 => ?_)
            rw [encN_snoc]
            refine WL.y (hy := (by first | exact fa | exact faE)) (h := ?_)
            first | refine st (h := ?_) | refine stE (h := ?_)
            refine nl (h := ?_)
            refine q_blk_norm (h := ?_)
            refine q_seq (h := ?_)
            refine rg (h := ?_)
            refine WL.y (hy := mv) (h := ?_)
            refine WL.y (hy := addI) (h := ?_)
            refine WL.y (hy := asg) (h := ?_)
            refine WL.cut (by repeat (first | exact Cut.nil | apply Cut.hit | apply Cut.miss (by exact rfl))) ?_
            refine nl (h := ?_)
            first
              | (refine rn (x := z) ⟨z.k + 1, y.ys ++ [calN m1.sc cv], A2, c2, y.ex⟩ ⟨by dsimp only; omega, hcall, hyk⟩ (by dsimp only; omega) (by repeat (first | exact trivial | refine ⟨rfl, ?_⟩)) (by rw [List.length_append]; exact (by repeat (first | exact SubL.nil | (apply SubL.cons; (repeat (first | exact At.here | apply At.there))) | exact SubL.refl _ | apply SubL.skip))); done)
              | (refine rn (x := z) ⟨z.k + 1, y.ys, y.A, y.c, y.ex⟩ ⟨by dsimp only; omega, hyI, hyk⟩ (by dsimp only; omega) (by repeat (first | exact trivial | refine ⟨rfl, ?_⟩)) (by repeat (first | exact SubL.nil | (apply SubL.cons; (repeat (first | exact At.here | apply At.there))) | exact SubL.refl _ | apply SubL.skip)); done)
          · skip
            refine skp (h := ?_)
            refine q_blk_norm (h := ?_)
            refine q_seq (h := ?_)
            refine rg (h := ?_)
            refine WL.y (hy := mv) (h := ?_)
            refine WL.y (hy := addI) (h := ?_)
            refine WL.y (hy := asg) (h := ?_)
            refine WL.cut (by repeat (first | exact Cut.nil | apply Cut.hit | apply Cut.miss (by exact rfl))) ?_
            refine nl (h := ?_)
            first
              | (refine rn (x := z) ⟨z.k + 1, y.ys ++ [calN m1.sc cv], A2, c2, y.ex⟩ ⟨by dsimp only; omega, hcall, hyk⟩ (by dsimp only; omega) (by repeat (first | exact trivial | refine ⟨rfl, ?_⟩)) (by rw [List.length_append]; exact (by repeat (first | exact SubL.nil | (apply SubL.cons; (repeat (first | exact At.here | apply At.there))) | exact SubL.refl _ | apply SubL.skip))); done)
              | (refine rn (x := z) ⟨z.k + 1, y.ys, y.A, y.c, y.ex⟩ ⟨by dsimp only; omega, hyI, hyk⟩ (by dsimp only; omega) (by repeat (first | exact trivial | refine ⟨rfl, ?_⟩)) (by repeat (first | exact SubL.nil | (apply SubL.cons; (repeat (first | exact At.here | apply At.there))) | exact SubL.refl _ | apply SubL.skip)); done)
      · skip
        have hzn : z.k = np := by have := of_decide_eq_false h5; omega
        rw [hzn] at hzI
        have hzlen := hzI.len
        refine et (h := ?_)
        refine q_then_exit (h := ?_)
        refine q_then_exit (h := ?_)
        refine q_blk_hit (h := ?_)
        refine q_seq (h := ?_)
        refine sq (h := ?_)
        refine sq (h := ?_)
        refine rg (h := ?_)
        refine WL.y (hy := (by first | exact ldA | exact ldEA)) (h := ?_)
        refine cl0 (hc := fun w hS => C_law3_Far f cf z.ys z.A z.ys.length z.c w (hS.get (by repeat (first | exact Rds.ro | exact Rds.own | apply Rds.there))) (by omega)) (h := ?_)
        refine WL.y (hy := mv) (h := ?_)
        apply brOr 4 147 151 (by exact rfl)
        · intro hb10
          refine un (h := ?_)
          refine WL.y (hy := (by first | exact ldA | exact ldEA)) (h := ?_)
          refine un (h := ?_)
          refine cl0 (hc := fun w hS => C_ref3_Check f cf z.ys z.A z.ys.length z.c w (hS.get (by repeat (first | exact Rds.ro | exact Rds.own | apply Rds.there))) (by omega)) (h := ?_)
          refine un (h := ?_)
          refine WL.y (hy := neq) (h := ?_)
          refine WL.y (hy := (by first | exact pkT | exact pkF)) (h := ?_)
          exact mg (by repeat (first | exact trivial | refine ⟨rfl, ?_⟩ | refine ⟨by rw [hb10]; rfl, ?_⟩)) (by repeat (first | exact SubL.nil | (apply SubL.cons; (repeat (first | exact At.here | apply At.there))) | exact SubL.refl _ | apply SubL.skip))
        · intro hb10
          repeat (first | refine un (h := ?_) | refine sk (h := ?_) | refine WL.y (hy := pkF) (h := ?_) | refine WL.y (hy := pkT) (h := ?_))
          exact mg (by repeat (first | exact trivial | refine ⟨rfl, ?_⟩ | refine ⟨by rw [hb10]; rfl, ?_⟩)) (by repeat (first | exact SubL.nil | (apply SubL.cons; (repeat (first | exact At.here | apply At.there))) | exact SubL.refl _ | apply SubL.skip))
        refine nl (h := ?_)
        refine q_seq (h := ?_)
        refine cd (by exact rfl) (fun h11 => ?_) (fun h11 => ?_)
        · skip
          refine sq (h := ?_)
          refine rg (h := ?_)
          refine cl0 (hc := fun w hS => C_top_carded w) (h := ?_)
          refine WL.y (hy := asg) (h := ?_)
          refine nl (h := ?_)
          refine q_seq (h := ?_)
          refine rtn (h := ?_)
          refine q_then_ret (h := ?_)
          refine q_ret (hR := ?_)
          first
            | exact fun w hS => ⟨rfl, hS.sub (by repeat (first | exact SubL.nil | (apply SubL.cons; (repeat (first | exact At.here | apply At.there))) | exact SubL.refl _ | apply SubL.skip))⟩
            | (refine fun w hS => ⟨?_, hS.sub (by repeat (first | exact SubL.nil | (apply SubL.cons; (repeat (first | exact At.here | apply At.there))) | exact SubL.refl _ | apply SubL.skip))⟩
               clear hS
               simp only [decide_true, Bool.true_and, Bool.and_true]
               rw [hfin]; rfl)
        · skip
          have h0 := h11
          simp only [Bool.or_eq_false_iff, Bool.not_eq_false', decide_eq_true_eq] at h0
          have hR := rdy_facts (show rdyC f cf z.ys = true by rw [rdyC, h0.1, decide_eq_true h0.2]; rfl)
          have hcf2 : cf = -1 ∨ cf = first := by
            rw [hcf]
            by_cases e : kn = true
            · rw [if_pos e]; exact .inr rfl
            · rw [if_neg e]; exact .inl rfl
          have hM : MOk f cf first z.ys ps := ⟨hfs, hcf2, by omega, ⟨m, hpl.to⟩, by rw [hlp]; exact hzI.fit⟩
          obtain ⟨m9, hT⟩ := hM.play hR
          obtain rfl : m = m9 := by have g9 := hT.o; rw [hm] at g9; exact Option.some.inj g9
          obtain ⟨ht1, ht2, ht3, ht4⟩ := hT.bad hR
          have htl := hT.lo
          have hth := hT.hi
          rw [hlp] at htl hth
          have hTl := hT.st hM hf
          have hsp : spotOf m = spS f first ps np := by rw [← hlp]; exact (play_can hf hpl.to).2
          refine skp (h := ?_)
          refine q_seq (h := ?_)
          refine sq (h := ?_)
          refine rg (h := ?_)
          refine WL.y (hy := (by first | exact ldA | exact ldEA)) (h := ?_)
          refine cl0 (hc := fun w hS => C_card_First f cf z.ys z.A z.ys.length z.c w (hS.get (by repeat (first | exact Rds.ro | exact Rds.own | apply Rds.there))) (by omega) (fun _ => by have := hR.m; omega)) (h := ?_)
          rw [hR.all, hR.c, ht1]
          refine WL.y (hy := mv) (h := ?_)
          refine WL.y (hy := ex) (h := ?_)
          refine WL.y (hy := ex) (h := ?_)
          refine WL.y (hy := asg) (h := ?_)
          refine WL.y (hy := asg) (h := ?_)
          refine nl (h := ?_)
          refine q_seq (h := ?_)
          refine sq (h := ?_)
          refine rg (h := ?_)
          refine WL.y (hy := (by first | exact ldA | exact ldEA)) (h := ?_)
          refine cl0 (hc := fun w hS => C_card_Fewest f cf z.ys z.A z.ys.length z.c w (hS.get (by repeat (first | exact Rds.ro | exact Rds.own | apply Rds.there))) (by omega) hR.sm) (h := ?_)
          rw [hR.few, hR.c, ht2]
          refine WL.y (hy := mv) (h := ?_)
          refine WL.y (hy := ex) (h := ?_)
          refine WL.y (hy := ex) (h := ?_)
          refine WL.y (hy := asg) (h := ?_)
          refine WL.y (hy := asg) (h := ?_)
          refine nl (h := ?_)
          refine q_seq (h := ?_)
          refine sq (h := ?_)
          refine rg (h := ?_)
          refine WL.y (hy := (by first | exact ldA | exact ldEA)) (h := ?_)
          refine cl (hc := fun w hS => C_card_BoardsT f cf z.ys z.A z.ys.length z.c w (hS.get (by repeat (first | exact Rds.ro | exact Rds.own | apply Rds.there))) (by omega) (fun _ => by have := hR.m; omega) hR.b) (h := fun qa hqa => ?_)
          rw [ht3]
          have hqal := hqa.len
          have hone : z.ex = true → qa.zs.length = 1 := fun he => by
            have e1 := congrArg List.length (hqa.yes ht3)
            rw [List.length_map, one_board (hzI.ex he) (by rw [← hsp]; exact hT.k)] at e1
            exact e1
          refine WL.y (hy := mv) (h := ?_)
          refine WL.y (hy := ex) (h := ?_)
          refine WL.y (hy := ex) (h := ?_)
          refine WL.y (hy := asg) (h := ?_)
          refine WL.y (hy := asg) (h := ?_)
          refine nl (h := ?_)
          refine q_seq (h := ?_)
          refine sq (h := ?_)
          refine rg (h := ?_)
          refine WL.y (hy := (by first | exact ldA | exact ldEA)) (h := ?_)
          refine cl0 (hc := fun w hS => C_card_Count f cf z.ys z.A z.ys.length z.c w (hS.get (by repeat (first | exact Rds.ro | exact Rds.own | apply Rds.there))) (by omega) (fun _ => by have := hR.m; omega)) (h := ?_)
          rw [ht3, ht4]
          refine WL.y (hy := mv) (h := ?_)
          refine WL.y (hy := ex) (h := ?_)
          refine WL.y (hy := ex) (h := ?_)
          refine al (h := fun b13 => ?_)
          first | refine stA (h := ?_) | refine stEA (h := ?_)
          refine WL.y (hy := asg) (h := ?_)
          refine nl (h := ?_)
          refine q_seq (h := ?_)
          refine sq (h := ?_)
          refine rg (h := ?_)
          refine WL.y (hy := (by first | exact ldA | exact ldEA)) (h := ?_)
          refine WL.y (hy := (by first | exact fa | exact faE)) (h := ?_)
          refine WL.y (hy := (by first | exact ld | exact ldE)) (h := ?_)
          refine WL.y (hy := (by first | exact fa | exact faE)) (h := ?_)
          refine WL.y (hy := (by first | exact ld | exact ldE)) (h := ?_)
          refine cl (hc := fun w hS => C_score_Play f first ps P np cp w (hS.get (by repeat (first | exact Rds.ro | exact Rds.own | apply Rds.there))) hnp) (h := fun u _ => ?_)
          rw [playE_some hT.o, hT.o]
          refine WL.y (hy := mv) (h := ?_)
          refine WL.y (hy := ex) (h := ?_)
          refine WL.y (hy := ex) (h := ?_)
          refine al (h := fun b14 => ?_)
          first | refine stA (h := ?_) | refine stEA (h := ?_)
          refine WL.y (hy := asg) (h := ?_)
          refine nl (h := ?_)
          refine q_seq (h := ?_)
          refine sq (h := ?_)
          refine sq (h := ?_)
          refine rg (h := ?_)
          refine WL.y (hy := mv) (h := ?_)
          refine WL.y (hy := neq) (h := ?_)
          refine WL.y (hy := mv) (h := ?_)
          apply brOr 3 184 187 (by exact rfl)
          · intro hb12
            refine un (h := ?_)
            refine WL.y (hy := mv) (h := ?_)
            refine un (h := ?_)
            refine WL.y (hy := neq) (h := ?_)
            refine WL.y (hy := (by first | exact pkT | exact pkF)) (h := ?_)
            exact mg (by repeat (first | exact trivial | refine ⟨rfl, ?_⟩ | refine ⟨by rw [hb12]; rfl, ?_⟩)) (by repeat (first | exact SubL.nil | (apply SubL.cons; (repeat (first | exact At.here | apply At.there))) | exact SubL.refl _ | apply SubL.skip))
          · intro hb12
            repeat (first | refine un (h := ?_) | refine sk (h := ?_) | refine WL.y (hy := pkF) (h := ?_) | refine WL.y (hy := pkT) (h := ?_))
            exact mg (by repeat (first | exact trivial | refine ⟨rfl, ?_⟩ | refine ⟨by rw [hb12]; rfl, ?_⟩)) (by repeat (first | exact SubL.nil | (apply SubL.cons; (repeat (first | exact At.here | apply At.there))) | exact SubL.refl _ | apply SubL.skip))
          refine WL.y (hy := mv) (h := ?_)
          apply brOr 3 188 191 (by exact rfl)
          · intro hb13
            refine un (h := ?_)
            refine WL.y (hy := mv) (h := ?_)
            refine un (h := ?_)
            refine WL.y (hy := neq) (h := ?_)
            refine WL.y (hy := (by first | exact pkT | exact pkF)) (h := ?_)
            exact mg (by repeat (first | exact trivial | refine ⟨rfl, ?_⟩ | refine ⟨by rw [hb13]; rfl, ?_⟩)) (by repeat (first | exact SubL.nil | (apply SubL.cons; (repeat (first | exact At.here | apply At.there))) | exact SubL.refl _ | apply SubL.skip))
          · intro hb13
            repeat (first | refine un (h := ?_) | refine sk (h := ?_) | refine WL.y (hy := pkF) (h := ?_) | refine WL.y (hy := pkT) (h := ?_))
            exact mg (by repeat (first | exact trivial | refine ⟨rfl, ?_⟩ | refine ⟨by rw [hb13]; rfl, ?_⟩)) (by repeat (first | exact SubL.nil | (apply SubL.cons; (repeat (first | exact At.here | apply At.there))) | exact SubL.refl _ | apply SubL.skip))
          refine WL.y (hy := mv) (h := ?_)
          apply brOr 3 192 195 (by exact rfl)
          · intro hb14
            refine un (h := ?_)
            refine WL.y (hy := mv) (h := ?_)
            refine un (h := ?_)
            refine WL.y (hy := neq) (h := ?_)
            refine WL.y (hy := (by first | exact pkT | exact pkF)) (h := ?_)
            exact mg (by repeat (first | exact trivial | refine ⟨rfl, ?_⟩ | refine ⟨by rw [hb14]; rfl, ?_⟩)) (by repeat (first | exact SubL.nil | (apply SubL.cons; (repeat (first | exact At.here | apply At.there))) | exact SubL.refl _ | apply SubL.skip))
          · intro hb14
            repeat (first | refine un (h := ?_) | refine sk (h := ?_) | refine WL.y (hy := pkF) (h := ?_) | refine WL.y (hy := pkT) (h := ?_))
            exact mg (by repeat (first | exact trivial | refine ⟨rfl, ?_⟩ | refine ⟨by rw [hb14]; rfl, ?_⟩)) (by repeat (first | exact SubL.nil | (apply SubL.cons; (repeat (first | exact At.here | apply At.there))) | exact SubL.refl _ | apply SubL.skip))
          refine WL.y (hy := mv) (h := ?_)
          apply brOr 3 196 199 (by exact rfl)
          · intro hb15
            refine un (h := ?_)
            refine WL.y (hy := mv) (h := ?_)
            refine un (h := ?_)
            refine WL.y (hy := neq) (h := ?_)
            refine WL.y (hy := (by first | exact pkT | exact pkF)) (h := ?_)
            exact mg (by repeat (first | exact trivial | refine ⟨rfl, ?_⟩ | refine ⟨by rw [hb15]; rfl, ?_⟩)) (by repeat (first | exact SubL.nil | (apply SubL.cons; (repeat (first | exact At.here | apply At.there))) | exact SubL.refl _ | apply SubL.skip))
          · intro hb15
            repeat (first | refine un (h := ?_) | refine sk (h := ?_) | refine WL.y (hy := pkF) (h := ?_) | refine WL.y (hy := pkT) (h := ?_))
            exact mg (by repeat (first | exact trivial | refine ⟨rfl, ?_⟩ | refine ⟨by rw [hb15]; rfl, ?_⟩)) (by repeat (first | exact SubL.nil | (apply SubL.cons; (repeat (first | exact At.here | apply At.there))) | exact SubL.refl _ | apply SubL.skip))
          refine WL.y (hy := mv) (h := ?_)
          apply brOr 3 200 203 (by exact rfl)
          · intro hb16
            refine un (h := ?_)
            refine WL.y (hy := mv) (h := ?_)
            refine un (h := ?_)
            refine WL.y (hy := neq) (h := ?_)
            refine WL.y (hy := (by first | exact pkT | exact pkF)) (h := ?_)
            exact mg (by repeat (first | exact trivial | refine ⟨rfl, ?_⟩ | refine ⟨by rw [hb16]; rfl, ?_⟩)) (by repeat (first | exact SubL.nil | (apply SubL.cons; (repeat (first | exact At.here | apply At.there))) | exact SubL.refl _ | apply SubL.skip))
          · intro hb16
            repeat (first | refine un (h := ?_) | refine sk (h := ?_) | refine WL.y (hy := pkF) (h := ?_) | refine WL.y (hy := pkT) (h := ?_))
            exact mg (by repeat (first | exact trivial | refine ⟨rfl, ?_⟩ | refine ⟨by rw [hb16]; rfl, ?_⟩)) (by repeat (first | exact SubL.nil | (apply SubL.cons; (repeat (first | exact At.here | apply At.there))) | exact SubL.refl _ | apply SubL.skip))
          refine WL.y (hy := mv) (h := ?_)
          apply brOr 3 204 207 (by exact rfl)
          · intro hb17
            refine un (h := ?_)
            refine WL.y (hy := mv) (h := ?_)
            refine un (h := ?_)
            refine WL.y (hy := neq) (h := ?_)
            refine WL.y (hy := (by first | exact pkT | exact pkF)) (h := ?_)
            exact mg (by repeat (first | exact trivial | refine ⟨rfl, ?_⟩ | refine ⟨by rw [hb17]; rfl, ?_⟩)) (by repeat (first | exact SubL.nil | (apply SubL.cons; (repeat (first | exact At.here | apply At.there))) | exact SubL.refl _ | apply SubL.skip))
          · intro hb17
            repeat (first | refine un (h := ?_) | refine sk (h := ?_) | refine WL.y (hy := pkF) (h := ?_) | refine WL.y (hy := pkT) (h := ?_))
            exact mg (by repeat (first | exact trivial | refine ⟨rfl, ?_⟩ | refine ⟨by rw [hb17]; rfl, ?_⟩)) (by repeat (first | exact SubL.nil | (apply SubL.cons; (repeat (first | exact At.here | apply At.there))) | exact SubL.refl _ | apply SubL.skip))
          refine WL.y (hy := mv) (h := ?_)
          apply brOr 7 208 215 (by exact rfl)
          · intro hb18
            refine un (h := ?_)
            refine WL.y (hy := (by first | exact fa | exact faE)) (h := ?_)
            refine un (h := ?_)
            refine WL.y (hy := (by first | exact ld | exact ldE)) (h := ?_)
            refine un (h := ?_)
            refine WL.y (hy := lenS) (h := ?_)
            refine un (h := ?_)
            refine WL.y (hy := (by first | exact fa | exact faE)) (h := ?_)
            refine un (h := ?_)
            refine WL.y (hy := (by first | exact ld | exact ldE)) (h := ?_)
            refine un (h := ?_)
            refine WL.y (hy := lss) (h := ?_)
            refine WL.y (hy := (by first | exact pkT | exact pkF)) (h := ?_)
            exact mg (by repeat (first | exact trivial | refine ⟨rfl, ?_⟩ | refine ⟨by rw [hb18]; rfl, ?_⟩)) (by repeat (first | exact SubL.nil | (apply SubL.cons; (repeat (first | exact At.here | apply At.there))) | exact SubL.refl _ | apply SubL.skip))
          · intro hb18
            repeat (first | refine un (h := ?_) | refine sk (h := ?_) | refine WL.y (hy := pkF) (h := ?_) | refine WL.y (hy := pkT) (h := ?_))
            exact mg (by repeat (first | exact trivial | refine ⟨rfl, ?_⟩ | refine ⟨by rw [hb18]; rfl, ?_⟩)) (by repeat (first | exact SubL.nil | (apply SubL.cons; (repeat (first | exact At.here | apply At.there))) | exact SubL.refl _ | apply SubL.skip))
          refine WL.y (hy := mv) (h := ?_)
          apply brOr 7 216 223 (by exact rfl)
          · intro hb19
            refine un (h := ?_)
            refine WL.y (hy := (by first | exact fa | exact faE)) (h := ?_)
            refine un (h := ?_)
            refine WL.y (hy := (by first | exact ld | exact ldE)) (h := ?_)
            refine un (h := ?_)
            refine WL.y (hy := lenS) (h := ?_)
            refine un (h := ?_)
            refine WL.y (hy := (by first | exact fa | exact faE)) (h := ?_)
            refine un (h := ?_)
            refine WL.y (hy := (by first | exact ld | exact ldE)) (h := ?_)
            refine un (h := ?_)
            refine WL.y (hy := gtr) (h := ?_)
            refine WL.y (hy := (by first | exact pkT | exact pkF)) (h := ?_)
            exact mg (by repeat (first | exact trivial | refine ⟨rfl, ?_⟩ | refine ⟨by rw [hb19]; rfl, ?_⟩)) (by repeat (first | exact SubL.nil | (apply SubL.cons; (repeat (first | exact At.here | apply At.there))) | exact SubL.refl _ | apply SubL.skip))
          · intro hb19
            repeat (first | refine un (h := ?_) | refine sk (h := ?_) | refine WL.y (hy := pkF) (h := ?_) | refine WL.y (hy := pkT) (h := ?_))
            exact mg (by repeat (first | exact trivial | refine ⟨rfl, ?_⟩ | refine ⟨by rw [hb19]; rfl, ?_⟩)) (by repeat (first | exact SubL.nil | (apply SubL.cons; (repeat (first | exact At.here | apply At.there))) | exact SubL.refl _ | apply SubL.skip))
          refine WL.y (hy := mv) (h := ?_)
          apply brOr 7 224 231 (by exact rfl)
          · intro hb20
            refine un (h := ?_)
            refine WL.y (hy := mv) (h := ?_)
            refine un (h := ?_)
            refine WL.y (hy := mv) (h := ?_)
            apply brAnd 4 226 230 (by exact rfl)
            · intro hb21
              refine un (h := ?_)
              refine WL.y (hy := mv) (h := ?_)
              refine un (h := ?_)
              refine WL.y (hy := lenS) (h := ?_)
              refine un (h := ?_)
              refine WL.y (hy := neq) (h := ?_)
              refine un (h := ?_)
              refine WL.y (hy := (by first | exact pkT | exact pkF)) (h := ?_)
              exact mg (by repeat (first | exact trivial | refine ⟨rfl, ?_⟩ | refine ⟨by rw [hb21]; rfl, ?_⟩ | refine ⟨by rw [hb20]; rfl, ?_⟩)) (by repeat (first | exact SubL.nil | (apply SubL.cons; (repeat (first | exact At.here | apply At.there))) | exact SubL.refl _ | apply SubL.skip))
            · intro hb21
              repeat (first | refine un (h := ?_) | refine sk (h := ?_) | refine WL.y (hy := pkF) (h := ?_) | refine WL.y (hy := pkT) (h := ?_))
              exact mg (by repeat (first | exact trivial | refine ⟨rfl, ?_⟩ | refine ⟨by rw [hb21]; rfl, ?_⟩ | refine ⟨by rw [hb20]; rfl, ?_⟩)) (by repeat (first | exact SubL.nil | (apply SubL.cons; (repeat (first | exact At.here | apply At.there))) | exact SubL.refl _ | apply SubL.skip))
            refine WL.y (hy := (by first | exact pkT | exact pkF)) (h := ?_)
            exact mg (by repeat (first | exact trivial | refine ⟨rfl, ?_⟩ | refine ⟨by rw [hb20]; rfl, ?_⟩)) (by repeat (first | exact SubL.nil | (apply SubL.cons; (repeat (first | exact At.here | apply At.there))) | exact SubL.refl _ | apply SubL.skip))
          · intro hb20
            repeat (first | refine un (h := ?_) | refine sk (h := ?_) | refine WL.y (hy := pkF) (h := ?_) | refine WL.y (hy := pkT) (h := ?_))
            exact mg (by repeat (first | exact trivial | refine ⟨rfl, ?_⟩ | refine ⟨by rw [hb20]; rfl, ?_⟩)) (by repeat (first | exact SubL.nil | (apply SubL.cons; (repeat (first | exact At.here | apply At.there))) | exact SubL.refl _ | apply SubL.skip))
          refine nl (h := ?_)
          refine q_seq (h := ?_)
          refine cd (by exact rfl) (fun h22 => ?_) (fun h22 => ?_)
          · skip
            have h0 := h22
            simp only [Bool.or_eq_true, Bool.and_eq_true, decide_eq_true_eq, Bool.not_eq_true', decide_eq_false_iff_not, not_true_eq_false, false_or] at h0
            exfalso
            rcases h0 with h0 | ⟨h0, h1⟩
            · omega
            · have := hone h0; omega
          · skip
            refine skp (h := ?_)
            refine q_seq (h := ?_)
            refine sq (h := ?_)
            refine rg (h := ?_)
            refine WL.y (hy := asg) (h := ?_)
            refine WL.cut (by repeat (first | exact Cut.nil | apply Cut.hit | apply Cut.miss (by exact rfl))) ?_
            refine nl (h := ?_)
            refine q_seq (h := ?_)
            refine sq (h := ?_)
            refine sq (h := ?_)
            refine rg (h := ?_)
            refine WL.y (hy := asg) (h := ?_)
            refine nl (h := ?_)
            refine q_seq (h := ?_)
            refine bk (h := ?_)
            refine lp (X := Nat) (I := fun i => i ≤ qa.zs.length) (le := fun i => [(3, .pointer (some ⟨b0, 0, none⟩)), (4, .pointer (some ⟨b1, 0, none⟩)), (5, .pointer (some ⟨b2, 0, none⟩)), (9, .pointer (some ⟨b4, 0, none⟩)), (20, .slice qa.A qa.zs.length qa.c), (24, .pointer (some ⟨b14, 0, none⟩)), (26, .bool (fndX qa.zs ⟨m.st, m.g, m.p⟩ i)), (27, .int .i64 i)]) (Le := fun _ => [.blk b14 55 ((scO (some m)).cells u.1 u.2), .own u.1 u.2 38 2 (scO (some m)).st.length (encP (scO (some m)).st), .own qa.A qa.c 44 5 qa.zs.length (encX qa.zs), manyE true (qa.zs.map rowX), .blk b4 26 (cardC f cf z.A z.ys.length z.c), .own z.A z.c 40 4 z.ys.length (encN z.ys), .blk b2 40 mark.cells]) (μ := fun i => qa.zs.length - i) 0 (Nat.zero_le _) (by repeat (first | exact trivial | refine ⟨rfl, ?_⟩)) (by repeat (first | exact SubL.nil | (apply SubL.cons; (repeat (first | exact At.here | apply At.there))) | exact SubL.refl _ | apply SubL.skip)) (fun i hi => ?_)
            refine sq (h := ?_)
            refine sq (h := ?_)
            refine rg (h := ?_)
            refine WL.y (hy := mv) (h := ?_)
            refine WL.y (hy := mv) (h := ?_)
            refine WL.y (hy := lenS) (h := ?_)
            refine WL.y (hy := lss) (h := ?_)
            refine nl (h := ?_)
            refine q_seq (h := ?_)
            refine cd (by exact rfl) (fun h23 => ?_) (fun h23 => ?_)
            · skip
              have hin : i < qa.zs.length := by have := of_decide_eq_true h23; omega
              obtain ⟨x1, hx1⟩ : ∃ x, qa.zs[i]? = some x := ⟨_, List.getElem?_eq_getElem hin⟩
              have hfs := fnd_succR (b := ⟨m.st, m.g, m.p⟩) hx1
              refine skp (h := ?_)
              refine q_seq (h := ?_)
              refine sq (h := ?_)
              refine bk (h := ?_)
              refine rgD (by kernel_rfl) [(1000000, .own qa.A qa.c 44 5 qa.zs.length (encX qa.zs)), (1000000, .blk b14 55 ((scO (some m)).cells u.1 u.2))] (by repeat (first | exact HS.nil | (apply HS.keep; (repeat (first | exact At.here | apply At.there))) | (apply HS.ro; (repeat (first | exact Rds.ro | exact Rds.own | apply Rds.there))))) (h := ?_)
              refine tk 0 (hy := mv) (h := ?_)
              refine tk 1 (hy := mv) (h := ?_)
              refine brH (g := 239) (by exact rfl) (fun hb24 => ?_) (fun hb24 => ?_)
              · skip
                rw [hb24, Bool.true_or] at hfs
                refine tkS 2 (h := ?_)
                refine tkS 3 (h := ?_)
                refine tkS 4 (h := ?_)
                refine tkS 5 (h := ?_)
                refine tkS 6 (h := ?_)
                refine tkS 7 (h := ?_)
                refine tkS 8 (h := ?_)
                refine tk 9 (hy := (by first | exact pkT | exact pkF)) (h := ?_)
                refine tk 10 (hy := asg) (h := ?_)
                refine dn (h := ?_)
                refine q_blk_norm (h := ?_)
                refine q_seq (h := ?_)
                refine rg (h := ?_)
                refine WL.y (hy := mv) (h := ?_)
                refine WL.y (hy := addI) (h := ?_)
                refine WL.y (hy := asg) (h := ?_)
                refine nl (h := ?_)
                refine rn (x := i) (i + 1) hin (by omega) (by rw [hfs]; repeat (first | exact trivial | refine ⟨rfl, ?_⟩)) (by repeat (first | exact SubL.nil | (apply SubL.cons; (repeat (first | exact At.here | apply At.there))) | exact SubL.refl _ | apply SubL.skip))
              · skip
                rw [hb24, Bool.false_or] at hfs
                refine tk 2 (hy := mv) (h := ?_)
                refine tk 3 (hy := mv) (h := ?_)
                refine tk 4 (hy := ix (A := qa.A) (m := qa.zs.length)) (h := ?_)
                refine tk 5 (hy := ldEW (A := qa.A) (k := i) (cs := x1.cells) (hk := encX_at hx1)) (h := ?_)
                refine tk 6 (hy := (by first | exact fa | exact faE)) (h := ?_)
                refine tk 7 (hy := (by first | exact ldA | exact ldEA)) (h := ?_)
                refine one 8 (h := ?_)
                refine un (h := ?_)
                refine cl0 (hc := fun w hS => C_ref3_SameBoard x1.b ⟨m.st, m.g, m.p⟩ x1.A u.1 x1.b.st.length x1.c m.st.length u.2 w (many_ok (List.mem_of_getElem? hx1) w (hS.ok _ (by repeat (first | exact List.mem_cons_self | apply List.mem_cons_of_mem)))) (hS.get (by repeat (first | exact Rds.ro | exact Rds.own | apply Rds.there))) (by have := (hqa.sm x1 (List.mem_of_getElem? hx1)).n; omega) (by omega)) (h := ?_)
                refine nx (h := ?_)
                refine tk 9 (hy := (by first | exact pkT | exact pkF)) (h := ?_)
                refine tk 10 (hy := asg) (h := ?_)
                refine dn (h := ?_)
                refine q_blk_norm (h := ?_)
                refine q_seq (h := ?_)
                refine rg (h := ?_)
                refine WL.y (hy := mv) (h := ?_)
                refine WL.y (hy := addI) (h := ?_)
                refine WL.y (hy := asg) (h := ?_)
                refine nl (h := ?_)
                refine rn (x := i) (i + 1) hin (by omega) (by rw [hfs]; repeat (first | exact trivial | refine ⟨rfl, ?_⟩)) (by repeat (first | exact SubL.nil | (apply SubL.cons; (repeat (first | exact At.here | apply At.there))) | exact SubL.refl _ | apply SubL.skip))
            · skip
              have hin : i = qa.zs.length := by have := of_decide_eq_false h23; omega
              rw [hin, fnd_mem (b := ⟨m.st, m.g, m.p⟩) (zs := qa.zs) (by rw [hqa.yes ht3]; exact ((boards_facts _).2 _).2 ⟨spotOf m, hT.k, rfl⟩)]
              refine et (h := ?_)
              refine q_then_exit (h := ?_)
              refine q_then_exit (h := ?_)
              refine q_blk_hit (h := ?_)
              refine q_seq (h := ?_)
              refine sq (h := ?_)
              refine sq (h := ?_)
              refine rg (h := ?_)
              refine WL.y (hy := mv) (h := ?_)
              refine WL.y (hy := notB) (h := ?_)
              refine nl (h := ?_)
              refine q_seq (h := ?_)
              refine cd (by exact rfl) (fun h25 => ?_) (fun h25 => ?_)
              · skip
                have h0 := h25
                cases h0
              · skip
                refine skp (h := ?_)
                refine q_seq (h := ?_)
                refine sq (h := ?_)
                refine sq (h := ?_)
                refine rg (h := ?_)
                refine WL.y (hy := (by first | exact fa | exact faE)) (h := ?_)
                refine WL.y (hy := (by first | exact ld | exact ldE)) (h := ?_)
                refine WL.y (hy := lss) (h := ?_)
                refine WL.y (hy := mv) (h := ?_)
                apply brOr 4 253 257 (by exact rfl)
                · intro hb26
                  refine un (h := ?_)
                  refine WL.y (hy := (by first | exact ldA | exact ldEA)) (h := ?_)
                  refine un (h := ?_)
                  refine cl0 (hc := fun w hS => C_ref3_IsMark _ w) (h := ?_)
                  refine un (h := ?_)
                  refine WL.y (hy := notB) (h := ?_)
                  refine WL.y (hy := (by first | exact pkT | exact pkF)) (h := ?_)
                  exact mg (by repeat (first | exact trivial | refine ⟨rfl, ?_⟩ | refine ⟨by rw [hb26]; rfl, ?_⟩)) (by repeat (first | exact SubL.nil | (apply SubL.cons; (repeat (first | exact At.here | apply At.there))) | exact SubL.refl _ | apply SubL.skip))
                · intro hb26
                  repeat (first | refine un (h := ?_) | refine sk (h := ?_) | refine WL.y (hy := pkF) (h := ?_) | refine WL.y (hy := pkT) (h := ?_))
                  exact mg (by repeat (first | exact trivial | refine ⟨rfl, ?_⟩ | refine ⟨by rw [hb26]; rfl, ?_⟩)) (by repeat (first | exact SubL.nil | (apply SubL.cons; (repeat (first | exact At.here | apply At.there))) | exact SubL.refl _ | apply SubL.skip))
                refine nl (h := ?_)
                refine q_seq (h := ?_)
                refine cd (by exact rfl) (fun h27 => ?_) (fun h27 => ?_)
                · skip
                  refine sq (h := ?_)
                  refine rg (h := ?_)
                  refine cl0 (hc := fun w hS => C_top_carded w) (h := ?_)
                  refine WL.y (hy := asg) (h := ?_)
                  refine nl (h := ?_)
                  refine q_seq (h := ?_)
                  refine rtn (h := ?_)
                  refine q_then_ret (h := ?_)
                  refine q_ret (hR := ?_)
                  first
                    | exact fun w hS => ⟨rfl, hS.sub (by repeat (first | exact SubL.nil | (apply SubL.cons; (repeat (first | exact At.here | apply At.there))) | exact SubL.refl _ | apply SubL.skip))⟩
                    | (refine fun w hS => ⟨?_, hS.sub (by repeat (first | exact SubL.nil | (apply SubL.cons; (repeat (first | exact At.here | apply At.there))) | exact SubL.refl _ | apply SubL.skip))⟩
                       clear hS
                       simp only [decide_true, Bool.true_and, Bool.and_true]
                       rw [hfin]; rfl)
                · skip
                  have h0 := h27
                  simp only [Bool.or_eq_false_iff, Bool.not_eq_false', decide_eq_false_iff_not] at h0
                  have hk3 : 3 ≤ mark.kind := by omega
                  have hsE := hR.sureE h0.2 hk3
                  have hfin : (!sureB f cf z.ys mark || tstV m.sc mark) = true := by
                    cases hb : sureB f cf z.ys mark
                    · rfl
                    · rw [sure_tst hT hM.fs hb ⟨hk3, (mk_kind h0.2).1.2⟩]; rfl
                  refine skp (h := ?_)
                  refine q_seq (h := ?_)
                  refine sq (h := ?_)
                  refine rg (h := ?_)
                  refine WL.y (hy := (by first | exact ldA | exact ldEA)) (h := ?_)
                  refine WL.y (hy := (by first | exact ldA | exact ldEA)) (h := ?_)
                  refine cl0 (hc := fun w hS => C_card_Sure f cf z.ys mark z.A z.ys.length z.c w (hS.get (by repeat (first | exact Rds.ro | exact Rds.own | apply Rds.there))) (by omega) (fun _ => by have := hR.m; omega)) (h := ?_)
                  rw [hsE.1, hsE.2, ht3]
                  refine WL.y (hy := mv) (h := ?_)
                  refine WL.y (hy := ex) (h := ?_)
                  refine WL.y (hy := ex) (h := ?_)
                  refine WL.y (hy := asg) (h := ?_)
                  refine WL.y (hy := asg) (h := ?_)
                  refine nl (h := ?_)
                  refine q_seq (h := ?_)
                  refine sq (h := ?_)
                  refine rg (h := ?_)
                  refine WL.y (hy := mv) (h := ?_)
                  refine WL.y (hy := eql) (h := ?_)
                  refine WL.y (hy := mv) (h := ?_)
                  apply brAnd 8 267 275 (by exact rfl)
                  · intro hb28
                    refine un (h := ?_)
                    refine WL.y (hy := mv) (h := ?_)
                    refine un (h := ?_)
                    refine WL.y (hy := notB) (h := ?_)
                    refine un (h := ?_)
                    refine WL.y (hy := mv) (h := ?_)
                    apply brOr 4 270 274 (by exact rfl)
                    · intro hb29
                      refine un (h := ?_)
                      refine WL.y (hy := (by first | exact ldA | exact ldEA)) (h := ?_)
                      refine un (h := ?_)
                      refine WL.y (hy := (by first | exact ldA | exact ldEA)) (h := ?_)
                      refine un (h := ?_)
                      refine cl0 (hc := fun w hS => C_ref3_True m.sc u.1 u.2 mark w (hS.get (by repeat (first | exact Rds.ro | exact Rds.own | apply Rds.there))) hTl) (h := ?_)
                      refine un (h := ?_)
                      refine WL.y (hy := (by first | exact pkT | exact pkF)) (h := ?_)
                      exact mg (by repeat (first | exact trivial | refine ⟨rfl, ?_⟩ | refine ⟨by rw [hb29]; rfl, ?_⟩ | refine ⟨by rw [hb28]; rfl, ?_⟩)) (by repeat (first | exact SubL.nil | (apply SubL.cons; (repeat (first | exact At.here | apply At.there))) | exact SubL.refl _ | apply SubL.skip))
                    · intro hb29
                      repeat (first | refine un (h := ?_) | refine sk (h := ?_) | refine WL.y (hy := pkF) (h := ?_) | refine WL.y (hy := pkT) (h := ?_))
                      exact mg (by repeat (first | exact trivial | refine ⟨rfl, ?_⟩ | refine ⟨by rw [hb29]; rfl, ?_⟩ | refine ⟨by rw [hb28]; rfl, ?_⟩)) (by repeat (first | exact SubL.nil | (apply SubL.cons; (repeat (first | exact At.here | apply At.there))) | exact SubL.refl _ | apply SubL.skip))
                    refine WL.y (hy := (by first | exact pkT | exact pkF)) (h := ?_)
                    exact mg (by repeat (first | exact trivial | refine ⟨rfl, ?_⟩ | refine ⟨by rw [hb28]; rfl, ?_⟩)) (by repeat (first | exact SubL.nil | (apply SubL.cons; (repeat (first | exact At.here | apply At.there))) | exact SubL.refl _ | apply SubL.skip))
                  · intro hb28
                    repeat (first | refine un (h := ?_) | refine sk (h := ?_) | refine WL.y (hy := pkF) (h := ?_) | refine WL.y (hy := pkT) (h := ?_))
                    exact mg (by repeat (first | exact trivial | refine ⟨rfl, ?_⟩ | refine ⟨by rw [hb28]; rfl, ?_⟩)) (by repeat (first | exact SubL.nil | (apply SubL.cons; (repeat (first | exact At.here | apply At.there))) | exact SubL.refl _ | apply SubL.skip))
                  refine WL.y (hy := mv) (h := ?_)
                  apply brAnd 2 276 278 (by exact rfl)
                  · intro hb30
                    refine un (h := ?_)
                    refine cl0 (hc := fun w hS => C_top_carded w) (h := ?_)
                    refine WL.y (hy := (by first | exact pkT | exact pkF)) (h := ?_)
                    exact mg (by repeat (first | exact trivial | refine ⟨rfl, ?_⟩ | refine ⟨by rw [hb30]; rfl, ?_⟩)) (by repeat (first | exact SubL.nil | (apply SubL.cons; (repeat (first | exact At.here | apply At.there))) | exact SubL.refl _ | apply SubL.skip))
                  · intro hb30
                    repeat (first | refine un (h := ?_) | refine sk (h := ?_) | refine WL.y (hy := pkF) (h := ?_) | refine WL.y (hy := pkT) (h := ?_))
                    exact mg (by repeat (first | exact trivial | refine ⟨rfl, ?_⟩ | refine ⟨by rw [hb30]; rfl, ?_⟩)) (by repeat (first | exact SubL.nil | (apply SubL.cons; (repeat (first | exact At.here | apply At.there))) | exact SubL.refl _ | apply SubL.skip))
                  refine WL.y (hy := asg) (h := ?_)
                  refine nl (h := ?_)
                  refine q_seq (h := ?_)
                  refine rtn (h := ?_)
                  refine q_ret (hR := ?_)
                  first
                    | exact fun w hS => ⟨rfl, hS.sub (by repeat (first | exact SubL.nil | (apply SubL.cons; (repeat (first | exact At.here | apply At.there))) | exact SubL.refl _ | apply SubL.skip))⟩
                    | (refine fun w hS => ⟨?_, hS.sub (by repeat (first | exact SubL.nil | (apply SubL.cons; (repeat (first | exact At.here | apply At.there))) | exact SubL.refl _ | apply SubL.skip))⟩
                       clear hS
                       simp only [decide_true, Bool.true_and, Bool.and_true]
                       rw [hfin]; rfl)
end Go.Proofs.Ytncoimjgjpcipaa
