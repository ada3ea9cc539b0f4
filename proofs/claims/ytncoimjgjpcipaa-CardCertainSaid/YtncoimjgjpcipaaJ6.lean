/- The texts of the walk, part 6. -/
import Derived.Test.YtncoimjgjpcipaaJ5
namespace Go.Proofs.Ytncoimjgjpcipaa
open Go Go.RowKit

structure MtA where
  (m : MS) (sA gA : Option Addr) (sc gc : Nat)
abbrev MtA.cells (q : MtA) : List Value := (refOf q.m).cells q.sA q.sc q.gA q.gc
def encM (l : List MtA) : List (List Value) := l.map MtA.cells
theorem encM_at {l : List MtA} {k : Nat} {q : MtA} (h : l[k]? = some q) : (encM l)[k]? = some q.cells := by unfold encM; rw [List.getElem?_map, h]; rfl
theorem encM_snoc (l : List MtA) (q : MtA) : encM l ++ [q.cells] = encM (l ++ [q]) := by unfold encM; rw [List.map_append]; rfl
theorem encB_get {l : List Bool} {k : Nat} {b : Bool} (h : l[k]? = some b) : (encB l)[k]? = some [.bool b] := by unfold encB; rw [List.getElem?_map, h]; rfl
theorem encB_set (l : List Bool) (k : Nat) (b : Bool) : (encB l).set k [.bool b] = encB (l.set k b) := by unfold encB; rw [List.map_set]
theorem encB_rep (n : Nat) : List.replicate n [Value.bool false] = encB (List.replicate n false) := by unfold encB; rw [List.map_replicate]
theorem bset_at {l : List Bool} {i t : Nat} (v : Bool) (h : i < l.length) : (l.set i v)[t]? = some true ↔ if t = i then v = true else l[t]? = some true := by
  rw [List.getElem?_set]
  by_cases e : i = t
  · subst e; rw [if_pos rfl, if_pos h, if_pos rfl]; simp
  · rw [if_neg e, if_neg (fun h => e h.symm)]
theorem rep_no (n t : Nat) : ¬ (List.replicate n false)[t]? = some true := fun h => by
  rw [List.getElem?_replicate] at h
  split at h <;> cases h
structure MtsI (f : Fmt) (first : Int) (ps : List Int) (k : Nat) (ms : List MtA) (U : List Row) : Prop where
  len : ms.length = k + 1
  ok : ∀ i q, ms[i]? = some q → playTo f first ps i = some q.m ∧ (⟨q.sA, 2, q.m.st.length, encP q.m.st⟩ : Row) ∈ U ∧ (⟨q.gA, 7, q.m.gs.length, encG q.m.gs⟩ : Row) ∈ U
theorem MtsI.snoc {f : Fmt} {first : Int} {ps : List Int} {k : Nat} {ms : List MtA} {U : List Row} (h : MtsI f first ps k ms U) {m : MS} {x : RU} (hm : playTo f first ps (k + 1) = some m) (hx : PtU U (refOf m) x) : MtsI f first ps (k + 1) (ms ++ [⟨m, x.sA, x.gA, x.sc, x.gc⟩]) x.U := by
  refine ⟨by rw [List.length_append, h.len]; rfl, fun i q hq => ?_⟩
  by_cases e : i < ms.length
  · rw [List.getElem?_append_left e] at hq
    obtain ⟨h1, h2, h3⟩ := h.ok i q hq
    exact ⟨h1, hx.sub _ h2, hx.sub _ h3⟩
  · rw [List.getElem?_append_right (by omega)] at hq
    have hl := h.len
    cases hd : i - ms.length with
    | succ d => rw [hd] at hq; simp at hq
    | zero =>
      rw [hd] at hq
      obtain rfl : (⟨m, x.sA, x.gA, x.sc, x.gc⟩ : MtA) = q := by simpa using hq
      rw [show i = k + 1 by omega]
      exact ⟨hm, hx.s, hx.g⟩
structure MOk (f : Fmt) (cf first : Int) (xs : List Nt) (ps : List Int) : Prop where
  fs : first = 0 ∨ first = 1
  cf : cf = -1 ∨ cf = first
  n : ps.length ≤ 600
  pl : ∃ m, playTo f first ps ps.length = some m
  fit : Fit f first ps xs xs.length ps.length
theorem fit_le {f : Fmt} {first : Int} {ps : List Int} {xs : List Nt} : ∀ {j n : Nat}, Fit f first ps xs j n → n ≤ ps.length
  | 0, n, h => by rw [show n = 0 from h]; exact Nat.zero_le _
  | j + 1, n, h => by
    obtain ⟨x, m, _, hm, hh⟩ := h
    have := fit_le hm
    unfold hitV at hh
    split at hh
    · exact hh.2.1
    · split at hh
      · exact hh.2.2
      · rw [hh.1]; exact this
structure KI (f : Fmt) (first : Int) (ps : List Int) (x : Nt) (bs : List Bool) (n i : Nat) (bt : List Bool) : Prop where
  len : bt.length = n + 1
  ok : ∀ t, bt[t]? = some true ↔ ∃ m, m < i ∧ bs[m]? = some true ∧ hitV f first ps x m t
section
variable {f : Fmt} {first : Int} {ps : List Int} {x : Nt} {bs bt : List Bool} {n i : Nat}
theorem KI.start : KI f first ps x bs n 0 (List.replicate (n + 1) false) := ⟨List.length_replicate .., fun t => ⟨fun h => absurd h (rep_no _ _), fun ⟨m, hm, _⟩ => absurd hm (Nat.not_lt_zero _)⟩⟩
theorem KI.next (h : KI f first ps x bs n i bt) {bu : List Bool} (hl : bu.length = n + 1) (hb : ∀ t, bu[t]? = some true ↔ bt[t]? = some true ∨ (bs[i]? = some true ∧ hitV f first ps x i t)) : KI f first ps x bs n (i + 1) bu := by
  refine ⟨hl, fun t => ?_⟩
  rw [hb t, h.ok t]
  constructor
  · rintro (⟨m, hm, hr⟩ | hr)
    · exact ⟨m, by omega, hr⟩
    · exact ⟨i, by omega, hr⟩
  · rintro ⟨m, hm, hr⟩
    by_cases e : m = i
    · subst e; exact .inr hr
    · exact .inl ⟨m, by omega, hr⟩
theorem KI.skip (h : KI f first ps x bs n i bt) (hn : ∀ t, ¬ (bs[i]? = some true ∧ hitV f first ps x i t)) : KI f first ps x bs n (i + 1) bt := h.next h.len fun t => ⟨.inl, fun h => h.elim id fun h => absurd h (hn t)⟩
theorem KI.one (h : KI f first ps x bs n i bt) (hk : x.kind = 1) (hbi : bs[i]? = some true) (hl : ps.length = n) (hin : i + 1 ≤ n) (hs : x.side = -1 ∨ ps[i]? = some x.side) : KI f first ps x bs n (i + 1) (bt.set (i + 1) true) := by
  refine h.next (by rw [List.length_set]; exact h.len) fun t => ?_
  rw [bset_at true (by rw [h.len]; omega)]
  unfold hitV
  rw [if_pos hk]
  by_cases e : t = i + 1
  · rw [if_pos e]; exact ⟨fun _ => .inr ⟨hbi, e, by omega, hs⟩, fun _ => rfl⟩
  · rw [if_neg e]; exact ⟨.inl, fun h => h.elim id fun h => absurd h.2.1 e⟩
theorem KI.one_no (h : KI f first ps x bs n i bt) (hk : x.kind = 1) (hl : ps.length = n) (hs : ¬ (i + 1 ≤ n ∧ (x.side = -1 ∨ ps[i]? = some x.side))) : KI f first ps x bs n (i + 1) bt := h.skip fun t ⟨_, ht⟩ => by
  unfold hitV at ht
  rw [if_pos hk] at ht
  exact hs ⟨by omega, ht.2.2⟩
theorem KI.test (h : KI f first ps x bs n i bt) (h1 : x.kind ≠ 1) (h2 : x.kind ≠ 2) (hbi : bs[i]? = some true) (hin : i ≤ n) {v : Bool} (hv : bt[i]? = some v) {u : Bool} (hu : u = holdS f x (spS f first ps i)) : KI f first ps x bs n (i + 1) (bt.set i (v || u)) := by
  refine h.next (by rw [List.length_set]; exact h.len) fun t => ?_
  rw [bset_at _ (by rw [h.len]; omega)]
  unfold hitV
  rw [if_neg h1, if_neg h2]
  by_cases e : t = i
  · subst e
    rw [if_pos rfl, hv, Bool.or_eq_true, hu, Option.some.injEq]
    exact ⟨fun h => h.imp id fun h => ⟨hbi, rfl, h⟩, fun h => h.imp id fun h => h.2.2⟩
  · rw [if_neg e]; exact ⟨.inl, fun h => h.elim id fun h => absurd h.2.1 e⟩
structure PI (x : Nt) (bt : List Bool) (n i k : Nat) (bu : List Bool) : Prop where
  len : bu.length = n + 1
  kb : x.pair.1 ≤ (k : Int) ∧ ((k : Int) = x.pair.1 ∨ ((k : Int) ≤ x.pair.2 + 1 ∧ i + k ≤ n + 1))
  ok : ∀ t, bu[t]? = some true ↔ bt[t]? = some true ∨ ∃ j : Nat, x.pair.1 ≤ (j : Int) ∧ j < k ∧ t = i + j
theorem PI.start (hl : bt.length = n + 1) {k : Nat} (hk : (k : Int) = x.pair.1) : PI x bt n i k bt := ⟨hl, ⟨by omega, .inl hk⟩, fun t => ⟨.inl, fun h => h.elim id fun ⟨j, h1, h2, _⟩ => by omega⟩⟩
theorem PI.next {k : Nat} {bu : List Bool} (h : PI x bt n i k bu) (h1 : (k : Int) ≤ x.pair.2) (h2 : i + k < n + 1) : PI x bt n i (k + 1) (bu.set (i + k) true) := by
  have hk := h.kb
  refine ⟨by rw [List.length_set]; exact h.len, ⟨by omega, .inr ⟨by omega, by omega⟩⟩, fun t => ?_⟩
  rw [bset_at true (by rw [h.len]; omega), h.ok t]
  by_cases e : t = i + k
  · rw [if_pos e]; exact ⟨fun _ => .inr ⟨k, hk.1, by omega, e⟩, fun _ => rfl⟩
  · rw [if_neg e]
    refine ⟨fun h => h.imp id fun ⟨j, a, b, c⟩ => ⟨j, a, by omega, c⟩, fun h => h.imp id fun ⟨j, a, b, c⟩ => ⟨j, a, ?_, c⟩⟩
    by_cases e2 : j = k
    · subst e2; exact absurd c e
    · omega
theorem PI.done {k : Nat} {bu : List Bool} (h : PI x bt n i k bu) (hx : x.kind = 2) (hr : 0 ≤ x.pair.1 ∧ x.pair.1 ≤ x.pair.2) (hin : i ≤ n) (hk : ¬ ((k : Int) ≤ x.pair.2 ∧ i + k < n + 1)) (hbi : bs[i]? = some true) (hl : ps.length = n) (hK : KI f first ps x bs n i bt) : KI f first ps x bs n (i + 1) bu := by
  have hkk := h.kb
  refine hK.next h.len fun t => ?_
  rw [h.ok t]
  unfold hitV
  rw [if_neg (show ¬ x.kind = 1 by omega), if_pos hx]
  constructor
  · rintro (h | ⟨j, h1, h2, rfl⟩)
    · exact .inl h
    · exact .inr ⟨hbi, ⟨by omega, by omega⟩, by omega, by omega⟩
  · rintro (h | ⟨_, ⟨h1, h2⟩, h3, h4⟩)
    · exact .inl h
    · exact .inr ⟨t - i, by omega, by omega, by omega⟩
end
structure IZ where
  (k : Nat) (ms : List MtA) (l : MtA) (A : Option Addr) (c : Nat) (U : List Row)
structure JZ where
  (j : Nat) (bs : List Bool) (A : Option Addr) (c : Nat)
structure MKZ where
  (i : Nat) (bt : List Bool)
set_option maxRecDepth 100000 in
set_option maxHeartbeats 1000000 in
theorem C_ref3_IsMatch (f : Fmt) (cf : Int) (xs : List Nt) (A : Option Addr) (na c : Nat) (first : Int) (ps : List Int) (P : Option Addr) (n cp : Nat) (w : World) (h : Rd w A 4 na (encN xs)) (h' : Rd w P 1 n (encI ps)) (hn : n ≤ 9223372036854775807) (hx0 : na ≤ 60) (hck : chkC f cf xs = 0) :
    CR Try.prog 21 [.agg (cardC f cf A na c).toArray, .int .i64 first, .slice P n cp] w (fun b : Bool => b = true ↔ MOk f cf first xs ps) (fun b => .bool b) (fun _ => []) := by
  have hlx : xs.length = na := by have := h.len; rwa [encN_len] at this
  have hlp : ps.length = n := by have := h'.len; rwa [encI_len] at this
  obtain ⟨hc0, hf, hcf, hl30, hmk, -⟩ := chk_facts hck
  refine ⟨en Try.func21 Try.ntmps21 (((St.init w).share (e := .ro A 4 na (encN xs)) h rfl rfl rfl).share (e := .ro P 1 n (encI ps)) h' rfl rfl rfl) (h := fun F => ?_)⟩
  refine sq (h := ?_)
  refine rg (h := ?_)
  refine bxA (h := fun b0 => ?_)
  refine WL.y (hy := asg) (h := ?_)
  refine nl (h := ?_)
  refine q_seq (h := ?_)
  refine sq (h := ?_)
  refine sq (h := ?_)
  refine rg (h := ?_)
  refine WL.y (hy := mv) (h := ?_)
  refine cl0 (hc := fun w hS => C_ref3_within ..) (h := ?_)
  refine WL.y (hy := notB) (h := ?_)
  refine WL.y (hy := mv) (h := ?_)
  apply brOr 10 20 30 (by exact rfl)
  · intro hb0
    refine un (h := ?_)
    refine WL.y (hy := (by first | exact fa | exact faE)) (h := ?_)
    refine un (h := ?_)
    refine WL.y (hy := (by first | exact ld | exact ldE)) (h := ?_)
    refine un (h := ?_)
    refine WL.y (hy := neq) (h := ?_)
    refine un (h := ?_)
    refine WL.y (hy := mv) (h := ?_)
    apply brAnd 5 24 29 (by exact rfl)
    · intro hb1
      refine un (h := ?_)
      refine WL.y (hy := (by first | exact fa | exact faE)) (h := ?_)
      refine un (h := ?_)
      refine WL.y (hy := (by first | exact ld | exact ldE)) (h := ?_)
      refine un (h := ?_)
      refine WL.y (hy := mv) (h := ?_)
      refine un (h := ?_)
      refine WL.y (hy := neq) (h := ?_)
      refine un (h := ?_)
      refine WL.y (hy := (by first | exact pkT | exact pkF)) (h := ?_)
      exact mg (by repeat (first | exact trivial | refine ⟨rfl, ?_⟩ | refine ⟨by rw [hb1]; rfl, ?_⟩ | refine ⟨by rw [hb0]; rfl, ?_⟩)) (by repeat (first | exact SubL.nil | (apply SubL.cons; (repeat (first | exact At.here | apply At.there))) | exact SubL.refl _ | apply SubL.skip))
    · intro hb1
      repeat (first | refine un (h := ?_) | refine sk (h := ?_) | refine WL.y (hy := pkF) (h := ?_) | refine WL.y (hy := pkT) (h := ?_))
      exact mg (by repeat (first | exact trivial | refine ⟨rfl, ?_⟩ | refine ⟨by rw [hb1]; rfl, ?_⟩ | refine ⟨by rw [hb0]; rfl, ?_⟩)) (by repeat (first | exact SubL.nil | (apply SubL.cons; (repeat (first | exact At.here | apply At.there))) | exact SubL.refl _ | apply SubL.skip))
    refine WL.y (hy := (by first | exact pkT | exact pkF)) (h := ?_)
    exact mg (by repeat (first | exact trivial | refine ⟨rfl, ?_⟩ | refine ⟨by rw [hb0]; rfl, ?_⟩)) (by repeat (first | exact SubL.nil | (apply SubL.cons; (repeat (first | exact At.here | apply At.there))) | exact SubL.refl _ | apply SubL.skip))
  · intro hb0
    repeat (first | refine un (h := ?_) | refine sk (h := ?_) | refine WL.y (hy := pkF) (h := ?_) | refine WL.y (hy := pkT) (h := ?_))
    exact mg (by repeat (first | exact trivial | refine ⟨rfl, ?_⟩ | refine ⟨by rw [hb0]; rfl, ?_⟩)) (by repeat (first | exact SubL.nil | (apply SubL.cons; (repeat (first | exact At.here | apply At.there))) | exact SubL.refl _ | apply SubL.skip))
  refine WL.y (hy := mv) (h := ?_)
  apply brOr 4 31 35 (by exact rfl)
  · intro hb2
    refine un (h := ?_)
    refine WL.y (hy := mv) (h := ?_)
    refine un (h := ?_)
    refine WL.y (hy := lenS) (h := ?_)
    refine un (h := ?_)
    refine WL.y (hy := gtr) (h := ?_)
    refine WL.y (hy := (by first | exact pkT | exact pkF)) (h := ?_)
    exact mg (by repeat (first | exact trivial | refine ⟨rfl, ?_⟩ | refine ⟨by rw [hb2]; rfl, ?_⟩)) (by repeat (first | exact SubL.nil | (apply SubL.cons; (repeat (first | exact At.here | apply At.there))) | exact SubL.refl _ | apply SubL.skip))
  · intro hb2
    repeat (first | refine un (h := ?_) | refine sk (h := ?_) | refine WL.y (hy := pkF) (h := ?_) | refine WL.y (hy := pkT) (h := ?_))
    exact mg (by repeat (first | exact trivial | refine ⟨rfl, ?_⟩ | refine ⟨by rw [hb2]; rfl, ?_⟩)) (by repeat (first | exact SubL.nil | (apply SubL.cons; (repeat (first | exact At.here | apply At.there))) | exact SubL.refl _ | apply SubL.skip))
  refine nl (h := ?_)
  refine q_seq (h := ?_)
  refine cd (by exact rfl) (fun h3 => ?_) (fun h3 => ?_)
  · skip
    have hno : ¬ MOk f cf first xs ps := fun hM => by
      have h0 := h3
      have h1 := hM.fs
      have h2 := hM.cf
      have h3 := hM.n
      simp [wi] at h0
      omega
    refine sq (h := ?_)
    refine rg (h := ?_)
    refine WL.y (hy := asg) (h := ?_)
    refine nl (h := ?_)
    refine q_seq (h := ?_)
    refine rtn (h := ?_)
    refine q_then_ret (h := ?_)
    refine q_ret (hR := ?_)
    exact fun w hS => ⟨false, ⟨fun h9 => (by cases h9), fun h9 => absurd h9 hno⟩, rfl, hS.sub (by repeat (first | exact SubL.nil | (apply SubL.cons; (repeat (first | exact At.here | apply At.there))) | exact SubL.refl _ | apply SubL.skip))⟩
  · skip
    have hfc : (first = 0 ∨ first = 1) ∧ (cf = -1 ∨ cf = first) ∧ n ≤ 600 := by
      have h0 := h3
      simp [wi] at h0
      omega
    obtain ⟨hfs, hfc2, hn6⟩ := hfc
    refine skp (h := ?_)
    refine q_seq (h := ?_)
    refine sq (h := ?_)
    refine rg (h := ?_)
    refine WL.y (hy := (by first | exact fa | exact faE)) (h := ?_)
    refine WL.y (hy := (by first | exact ldA | exact ldEA)) (h := ?_)
    refine WL.y (hy := mv) (h := ?_)
    refine cl0 (hc := fun w hS => C_ref1_Begin _ _ (by assumption) w) (h := ?_)
    refine al (h := fun b1 => ?_)
    first | refine stA (h := ?_) | refine stEA (h := ?_)
    refine nl (h := ?_)
    refine q_seq (h := ?_)
    refine sq (h := ?_)
    refine rg (h := ?_)
    refine WL.y (hy := (by first | exact ldA | exact ldEA)) (h := ?_)
    refine bs (h := fun b2 => ?_)
    refine WL.y (hy := asg) (h := ?_)
    refine nl (h := ?_)
    refine q_seq (h := ?_)
    refine sq (h := ?_)
    refine sq (h := ?_)
    refine WC.nilOwn 38 2 (h := ?_)
    refine WC.nilOwn 146 7 (h := ?_)
    refine WC.many0 (h := ?_)
    refine WC.manyAdd (A := none) (size := 2) (by repeat (first | exact At.here | apply At.there)) (by repeat (first | exact At.here | apply At.there)) ?_
    refine WC.manyAdd (A := none) (size := 7) (by repeat (first | exact At.here | apply At.there)) (by repeat (first | exact At.here | apply At.there)) ?_
    rw [List.nil_append]
    refine rg (h := ?_)
    refine WL.y (hy := asg) (h := ?_)
    refine WL.cut (by repeat (first | exact Cut.nil | apply Cut.hit | apply Cut.miss (by exact rfl))) ?_
    refine nl (h := ?_)
    refine q_seq (h := ?_)
    refine bk (h := ?_)
    refine lp (X := IZ) (I := fun z => z.k ≤ n ∧ MtsI f first ps z.k z.ms z.U ∧ z.ms[z.k]? = some z.l) (le := fun z => [(1, .int .i64 first), (2, .slice P n cp), (3, .pointer (some ⟨b0, 0, none⟩)), (7, .pointer (some ⟨b1, 0, none⟩)), (8, .slice z.A (z.k + 1) z.c), (9, .int .i64 z.k)]) (Le := fun z => [.blk b1 73 z.l.cells, .own z.A z.c 73 12 (z.k + 1) (encM z.ms), manyE true z.U, .blk b0 26 (cardC f cf A na c), .ro P 1 n (encI ps), .ro A 4 na (encN xs)]) (μ := fun z => n - z.k) ⟨0, [⟨beginV f first, none, none, 0, 0⟩], ⟨beginV f first, none, none, 0, 0⟩, some ⟨b2, 0, none⟩, 1, [⟨none, 2, 0, []⟩] ++ [⟨none, 7, 0, []⟩]⟩ ⟨Nat.zero_le _, ⟨rfl, fun i q hq => by
      cases i with
      | succ i => simp at hq
      | zero =>
        obtain rfl : (⟨beginV f first, none, none, 0, 0⟩ : MtA) = q := by simpa using hq
        exact ⟨rfl, List.mem_append_left _ (List.mem_singleton.2 rfl), List.mem_append_right _ (List.mem_singleton.2 rfl)⟩⟩, rfl⟩ (by repeat (first | exact trivial | refine ⟨rfl, ?_⟩)) (by repeat (first | exact SubL.nil | (apply SubL.cons; (repeat (first | exact At.here | apply At.there))) | exact SubL.refl _ | apply SubL.skip)) (fun z hz => ?_)
    obtain ⟨hzk, hzm, hzl⟩ := hz
    obtain ⟨hzp, -, -⟩ := hzm.ok z.k z.l hzl
    obtain ⟨hzf, hz1, hzi⟩ := playTo_inv hf hzp
    have hzb := playTo_bd hf hfs (by omega) hzp
    refine sq (h := ?_)
    refine sq (h := ?_)
    refine rg (h := ?_)
    refine WL.y (hy := mv) (h := ?_)
    refine WL.y (hy := mv) (h := ?_)
    refine WL.y (hy := lenS) (h := ?_)
    refine WL.y (hy := lss) (h := ?_)
    refine nl (h := ?_)
    refine q_seq (h := ?_)
    refine cd (by exact rfl) (fun h4 => ?_) (fun h4 => ?_)
    · skip
      have hkn : z.k < n := by have := of_decide_eq_true h4; omega
      obtain ⟨p, hp⟩ : ∃ p, ps[z.k]? = some p := ⟨_, List.getElem?_eq_getElem (by omega)⟩
      have hpe := encI_at hp
      have hstep := playTo_succ hzp hp
      refine skp (h := ?_)
      refine q_seq (h := ?_)
      refine sq (h := ?_)
      refine bk (h := ?_)
      refine sq (h := ?_)
      refine sq (h := ?_)
      refine rg (h := ?_)
      refine WL.y (hy := mv) (h := ?_)
      refine WL.y (hy := mv) (h := ?_)
      refine WL.y (hy := ix (A := P) (m := n) (hb := by omega)) (h := ?_)
      refine WL.y (hy := ldE (A := P) (hk := hpe)) (h := ?_)
      refine cl0 (hc := fun w hS => C_ref3_within ..) (h := ?_)
      refine WL.y (hy := notB) (h := ?_)
      refine WL.y (hy := mv) (h := ?_)
      apply brOr 5 54 59 (by exact rfl)
      · intro hb5
        refine un (h := ?_)
        refine WL.y (hy := (by first | exact fa | exact faE)) (h := ?_)
        refine un (h := ?_)
        refine WL.y (hy := (by first | exact fa | exact faE)) (h := ?_)
        refine un (h := ?_)
        refine WL.y (hy := (by first | exact ld | exact ldE)) (h := ?_)
        refine un (h := ?_)
        refine WL.y (hy := geq) (h := ?_)
        refine WL.y (hy := (by first | exact pkT | exact pkF)) (h := ?_)
        exact mg (by repeat (first | exact trivial | refine ⟨rfl, ?_⟩ | refine ⟨by rw [hb5]; rfl, ?_⟩)) (by repeat (first | exact SubL.nil | (apply SubL.cons; (repeat (first | exact At.here | apply At.there))) | exact SubL.refl _ | apply SubL.skip))
      · intro hb5
        repeat (first | refine un (h := ?_) | refine sk (h := ?_) | refine WL.y (hy := pkF) (h := ?_) | refine WL.y (hy := pkT) (h := ?_))
        exact mg (by repeat (first | exact trivial | refine ⟨rfl, ?_⟩ | refine ⟨by rw [hb5]; rfl, ?_⟩)) (by repeat (first | exact SubL.nil | (apply SubL.cons; (repeat (first | exact At.here | apply At.there))) | exact SubL.refl _ | apply SubL.skip))
      refine nl (h := ?_)
      refine q_seq (h := ?_)
      refine cd (by exact rfl) (fun h6 => ?_) (fun h6 => ?_)
      · skip
        have hb' : (sideBad p || decide (0 ≤ z.l.m.winner)) = true := by rw [← side_wi]; exact h6
        have hno : ¬ MOk f cf first xs ps := fun hM => by
          rw [hb'] at hstep
          obtain ⟨m9, h9⟩ := hM.pl
          rw [playTo_none (k := ps.length) hstep (by omega)] at h9
          cases h9
        refine sq (h := ?_)
        refine rg (h := ?_)
        refine WL.y (hy := asg) (h := ?_)
        refine nl (h := ?_)
        refine q_seq (h := ?_)
        refine rtn (h := ?_)
        refine q_then_ret (h := ?_)
        refine q_blk_ret (h := ?_)
        refine q_then_ret (h := ?_)
        refine q_then_ret (h := ?_)
        refine q_blk_ret (h := ?_)
        refine q_then_ret (h := ?_)
        refine q_ret (hR := ?_)
        exact fun w hS => ⟨false, ⟨fun h9 => (by cases h9), fun h9 => absurd h9 hno⟩, rfl, hS.sub (by repeat (first | exact SubL.nil | (apply SubL.cons; (repeat (first | exact At.here | apply At.there))) | exact SubL.refl _ | apply SubL.skip))⟩
      · skip
        have hb' : (sideBad p || decide (0 ≤ z.l.m.winner)) = false := by rw [← side_wi]; exact h6
        have hnx : playTo f first ps (z.k + 1) = some (pointV z.l.m p) := by rw [hstep, hb']; rfl
        have h2' := Bool.or_eq_false_iff.1 hb'
        have hsd := side_ok h2'.1
        have hin : z.l.m.Inv := by
          rcases hzi with hi | hd
          · exact hi
          · have h1 := hd.w
            have h2 := h2'.2
            rw [decide_eq_false_iff_not] at h2
            omega
        obtain ⟨_, hUs, hUg⟩ := hzm.ok z.k z.l hzl
        refine skp (h := ?_)
        refine q_seq (h := ?_)
        refine sq (h := ?_)
        refine rgD (by kernel_rfl) [(8, .blk b1 73 z.l.cells), (1000000, .blk b0 26 (cardC f cf A na c)), (1000000, .ro P 1 n (encI ps))] (by repeat (first | exact HS.nil | (apply HS.keep; (repeat (first | exact At.here | apply At.there))) | (apply HS.ro; (repeat (first | exact Rds.ro | exact Rds.own | apply Rds.there))))) (h := ?_)
        refine tk 0 (hy := (by first | exact fa | exact faE)) (h := ?_)
        refine tk 1 (hy := (by first | exact ldA | exact ldEA)) (h := ?_)
        refine tk 2 (hy := (by first | exact ldA | exact ldEA)) (h := ?_)
        refine tk 3 (hy := mv) (h := ?_)
        refine tk 4 (hy := mv) (h := ?_)
        refine tk 5 (hy := ix (A := P) (m := n) (hb := by omega)) (h := ?_)
        refine tk 6 (hy := ldE (A := P) (hk := hpe)) (h := ?_)
        refine one 7 (h := ?_)
        refine clT (hc := T_ref1_PointU' f z.l.m hzf p z.k z.l.sA z.l.sc z.l.gA z.l.gc z.U hUs hUg hf hzb (by omega) hin hsd) (h := fun xu hxu => ?_)
        refine nx (h := ?_)
        refine one 8 (h := ?_)
        first | refine stA (h := ?_) | refine stEA (h := ?_)
        refine nx (h := ?_)
        refine dn (h := ?_)
        refine q_seq (h := ?_)
        refine rg (h := ?_)
        refine WL.y (hy := mv) (h := ?_)
        refine WL.y (hy := (by first | exact ldA | exact ldEA)) (h := ?_)
        refine bs (h := fun b3 => ?_)
        refine ap (es := encM z.ms) (m := z.k + 1) (k := 1) (A := z.A) (c := z.c) (h := fun A1 c1 => ?_)
        rw [show encM z.ms ++ [(refOf (pointV z.l.m p)).cells xu.sA xu.sc xu.gA xu.gc] = encM (z.ms ++ [⟨pointV z.l.m p, xu.sA, xu.gA, xu.sc, xu.gc⟩]) from encM_snoc z.ms ⟨pointV z.l.m p, xu.sA, xu.gA, xu.sc, xu.gc⟩]
        refine WL.y (hy := asg) (h := ?_)
        refine nl (h := ?_)
        refine q_blk_norm (h := ?_)
        refine q_seq (h := ?_)
        refine rg (h := ?_)
        refine WL.y (hy := mv) (h := ?_)
        refine WL.y (hy := addI) (h := ?_)
        refine WL.y (hy := asg) (h := ?_)
        refine WL.cut (by repeat (first | exact Cut.nil | apply Cut.hit | apply Cut.miss (by exact rfl))) ?_
        refine nl (h := ?_)
        refine rn (x := z) ⟨z.k + 1, z.ms ++ [⟨pointV z.l.m p, xu.sA, xu.gA, xu.sc, xu.gc⟩], ⟨pointV z.l.m p, xu.sA, xu.gA, xu.sc, xu.gc⟩, A1, c1, xu.U⟩ ⟨by dsimp only; omega, hzm.snoc hnx hxu, by have := hzm.len; dsimp only; rw [List.getElem?_append_right (by omega), show z.k + 1 - z.ms.length = 0 by omega]; rfl⟩ (by dsimp only; omega) (by repeat (first | exact trivial | refine ⟨rfl, ?_⟩)) (by repeat (first | exact SubL.nil | (apply SubL.cons; (repeat (first | exact At.here | apply At.there))) | exact SubL.refl _ | apply SubL.skip))
    · skip
      have hkn : z.k = n := by have := of_decide_eq_false h4; omega
      rw [hkn] at hzm hzp
      obtain ⟨zm, hzme⟩ : ∃ y : IZ, y = z := ⟨_, rfl⟩
      rw [hkn, ← hzme]
      rw [← hzme] at hzm hzp hzl
      have hml := hzm.len
      have hpc := (play_spot hf hzp).2
      have hst0 : ((List.replicate (n + 1) false).set 0 true).length = n + 1 := by rw [List.length_set, List.length_replicate]
      refine et (h := ?_)
      refine q_then_exit (h := ?_)
      refine q_then_exit (h := ?_)
      refine q_blk_hit (h := ?_)
      refine q_seq (h := ?_)
      refine sq (h := ?_)
      refine rg (h := ?_)
      refine WL.y (hy := mv) (h := ?_)
      refine WL.y (hy := lenS) (h := ?_)
      refine mks (n + 1) (hx := by exact rfl) (hy := by exact rfl) (h := fun bE => ?_)
      rw [encB_rep]
      refine WL.y (hy := asg) (h := ?_)
      refine WL.cut (by repeat (first | exact Cut.nil | apply Cut.hit | apply Cut.miss (by exact rfl))) ?_
      refine nl (h := ?_)
      refine q_seq (h := ?_)
      refine sq (h := ?_)
      refine rg (h := ?_)
      refine WL.y (hy := mv) (h := ?_)
      refine WL.y (hy := ix (A := some ⟨bE, 0, none⟩) (m := n + 1) (hb := by omega)) (h := ?_)
      refine stE (A := some ⟨bE, 0, none⟩) (k := 0) (j := 0) (hk := encB_get (b := false) (by rw [List.getElem?_replicate, if_pos (Nat.succ_pos n)])) (h := ?_)
      rw [show (encB (List.replicate (n + 1) false)).set 0 ([Value.bool false].set 0 (.bool true)) = encB ((List.replicate (n + 1) false).set 0 true) from encB_set _ _ _]
      refine nl (h := ?_)
      refine q_seq (h := ?_)
      refine sq (h := ?_)
      refine sq (h := ?_)
      refine rg (h := ?_)
      refine WL.y (hy := asg) (h := ?_)
      refine WL.cut (by repeat (first | exact Cut.nil | apply Cut.hit | apply Cut.miss (by exact rfl))) ?_
      refine nl (h := ?_)
      refine q_seq (h := ?_)
      refine bk (h := ?_)
      refine lp (X := JZ) (I := fun v => v.j ≤ na ∧ v.bs.length = n + 1 ∧ ∀ t, v.bs[t]? = some true ↔ Fit f first ps xs v.j t) (le := fun v => [(2, .slice P n cp), (3, .pointer (some ⟨b0, 0, none⟩)), (8, .slice zm.A (n + 1) zm.c), (10, .slice v.A (n + 1) v.c), (11, .int .i64 v.j)]) (Le := fun v => [.own v.A v.c 4 1 (n + 1) (encB v.bs), .own zm.A zm.c 73 12 (n + 1) (encM zm.ms), manyE true zm.U, .blk b0 26 (cardC f cf A na c), .ro P 1 n (encI ps), .ro A 4 na (encN xs)]) (μ := fun v => na - v.j) ⟨0, (List.replicate (n + 1) false).set 0 true, some ⟨bE, 0, none⟩, n + 1⟩ ⟨Nat.zero_le _, hst0, fun t => by
        rw [bset_at true (by rw [List.length_replicate]; omega)]
        show _ ↔ t = 0
        by_cases e : t = 0
        · rw [if_pos e]; exact ⟨fun _ => e, fun _ => rfl⟩
        · rw [if_neg e]; exact ⟨fun h9 => absurd h9 (rep_no _ _), fun h9 => absurd h9 e⟩⟩ (by repeat (first | exact trivial | refine ⟨rfl, ?_⟩)) (by repeat (first | exact SubL.nil | (apply SubL.cons; (repeat (first | exact At.here | apply At.there))) | exact SubL.refl _ | apply SubL.skip)) (fun v hv => ?_)
      obtain ⟨hvj, hvl, hvb⟩ := hv
      refine sq (h := ?_)
      refine sq (h := ?_)
      refine rg (h := ?_)
      refine WL.y (hy := mv) (h := ?_)
      refine WL.y (hy := (by first | exact fa | exact faE)) (h := ?_)
      refine WL.y (hy := (by first | exact ld | exact ldE)) (h := ?_)
      refine WL.y (hy := lenS) (h := ?_)
      refine WL.y (hy := lss) (h := ?_)
      refine nl (h := ?_)
      refine q_seq (h := ?_)
      refine cd (by exact rfl) (fun h7 => ?_) (fun h7 => ?_)
      · skip
        have hjn : v.j < na := by have := of_decide_eq_true h7; omega
        obtain ⟨x, hx⟩ : ∃ x, xs[v.j]? = some x := ⟨_, List.getElem?_eq_getElem (by omega)⟩
        have hxe := encN_at hx
        have hxm := mk_kind (hmk x (List.mem_of_getElem? hx))
        refine skp (h := ?_)
        refine q_seq (h := ?_)
        refine sq (h := ?_)
        refine bk (h := ?_)
        refine sq (h := ?_)
        refine rg (h := ?_)
        refine WL.y (hy := (by first | exact fa | exact faE)) (h := ?_)
        refine WL.y (hy := (by first | exact ld | exact ldE)) (h := ?_)
        refine WL.y (hy := mv) (h := ?_)
        refine WL.y (hy := ix (A := A) (m := na) (hb := by omega)) (h := ?_)
        refine WL.y (hy := ldEA (A := A) (hk := hxe)) (h := ?_)
        refine al (h := fun b4 => ?_)
        first | refine stA (h := ?_) | refine stEA (h := ?_)
        refine nl (h := ?_)
        refine q_seq (h := ?_)
        refine sq (h := ?_)
        refine rg (h := ?_)
        refine WL.y (hy := mv) (h := ?_)
        refine WL.y (hy := lenS) (h := ?_)
        refine mks (n + 1) (hx := by exact rfl) (hy := by exact rfl) (h := fun bM => ?_)
        rw [encB_rep]
        refine WL.y (hy := asg) (h := ?_)
        refine nl (h := ?_)
        refine q_seq (h := ?_)
        refine sq (h := ?_)
        refine sq (h := ?_)
        refine rg (h := ?_)
        refine WL.y (hy := asg) (h := ?_)
        refine WL.cut (by repeat (first | exact Cut.nil | apply Cut.hit | apply Cut.miss (by exact rfl))) ?_
        refine nl (h := ?_)
        refine q_seq (h := ?_)
        refine bk (h := ?_)
        refine lp (X := MKZ) (I := fun y => y.i ≤ n + 1 ∧ KI f first ps x v.bs n y.i y.bt) (le := fun y => [(2, .slice P n cp), (3, .pointer (some ⟨b0, 0, none⟩)), (8, .slice zm.A (n + 1) zm.c), (10, .slice v.A (n + 1) v.c), (11, .int .i64 v.j), (12, .pointer (some ⟨b4, 0, none⟩)), (13, .slice (some ⟨bM, 0, none⟩) (n + 1) (n + 1)), (14, .int .i64 y.i)]) (Le := fun y => [.own (some ⟨bM, 0, none⟩) (n + 1) 4 1 (n + 1) (encB y.bt), .blk b4 40 x.cells, .own v.A v.c 4 1 (n + 1) (encB v.bs), .own zm.A zm.c 73 12 (n + 1) (encM zm.ms), manyE true zm.U, .blk b0 26 (cardC f cf A na c), .ro P 1 n (encI ps), .ro A 4 na (encN xs)]) (μ := fun y => n + 1 - y.i) ⟨0, List.replicate (n + 1) false⟩ ⟨Nat.zero_le _, KI.start⟩ (by repeat (first | exact trivial | refine ⟨rfl, ?_⟩)) (by repeat (first | exact SubL.nil | (apply SubL.cons; (repeat (first | exact At.here | apply At.there))) | exact SubL.refl _ | apply SubL.skip)) (fun y hy => ?_)
        obtain ⟨hyi, hyK⟩ := hy
        refine sq (h := ?_)
        refine sq (h := ?_)
        refine rg (h := ?_)
        refine WL.y (hy := mv) (h := ?_)
        refine WL.y (hy := mv) (h := ?_)
        refine WL.y (hy := lenS) (h := ?_)
        refine WL.y (hy := lss) (h := ?_)
        refine nl (h := ?_)
        refine q_seq (h := ?_)
        refine cd (by exact rfl) (fun h8 => ?_) (fun h8 => ?_)
        · skip
          have hin1 : y.i < n + 1 := by have := of_decide_eq_true h8; omega
          obtain ⟨e, he⟩ : ∃ e, v.bs[y.i]? = some e := ⟨_, List.getElem?_eq_getElem (by omega)⟩
          have hee := encB_get he
          refine skp (h := ?_)
          refine q_seq (h := ?_)
          refine sq (h := ?_)
          refine bk (h := ?_)
          refine sq (h := ?_)
          refine sq (h := ?_)
          refine rg (h := ?_)
          refine WL.y (hy := mv) (h := ?_)
          refine WL.y (hy := mv) (h := ?_)
          refine WL.y (hy := ix (A := v.A) (m := n + 1) (hb := by omega)) (h := ?_)
          refine WL.y (hy := ldE (A := v.A) (k := y.i) (hk := hee)) (h := ?_)
          refine WL.y (hy := notB) (h := ?_)
          refine nl (h := ?_)
          refine q_seq (h := ?_)
          refine cd (by exact rfl) (fun h9 => ?_) (fun h9 => ?_)
          · skip
            have hKn := hyK.skip (fun t ⟨g9, _⟩ => by rw [he] at g9; have g8 : (!e) = true := h9; cases Option.some.inj g9; cases g8)
            refine et (h := ?_)
            refine q_then_exit (h := ?_)
            refine q_blk_hit (h := ?_)
            refine q_seq (h := ?_)
            refine rg (h := ?_)
            refine WL.y (hy := mv) (h := ?_)
            refine WL.y (hy := addI) (h := ?_)
            refine WL.y (hy := asg) (h := ?_)
            refine WL.cut (by repeat (first | exact Cut.nil | apply Cut.hit | apply Cut.miss (by exact rfl))) ?_
            refine nl (h := ?_)
            first
              | (refine rn (x := y) ⟨y.i + 1, y.bt⟩ ⟨by dsimp only; omega, hKn⟩ (by dsimp only; omega) (by repeat (first | exact trivial | refine ⟨rfl, ?_⟩)) (by repeat (first | exact SubL.nil | (apply SubL.cons; (repeat (first | exact At.here | apply At.there))) | exact SubL.refl _ | apply SubL.skip)); done)
              | (refine rn (x := y) ⟨y.i + 1, y.bt.set (y.i + 1) true⟩ ⟨by dsimp only; omega, hKn⟩ (by dsimp only; omega) (by repeat (first | exact trivial | refine ⟨rfl, ?_⟩)) (by repeat (first | exact SubL.nil | (apply SubL.cons; (repeat (first | exact At.here | apply At.there))) | exact SubL.refl _ | apply SubL.skip)); done)
              | (refine rn (x := y) ⟨y.i + 1, g.2⟩ ⟨by dsimp only; omega, hKn⟩ (by dsimp only; omega) (by repeat (first | exact trivial | refine ⟨rfl, ?_⟩)) (by repeat (first | exact SubL.nil | (apply SubL.cons; (repeat (first | exact At.here | apply At.there))) | exact SubL.refl _ | apply SubL.skip)); done)
              | (refine rn (x := y) ⟨y.i + 1, y.bt.set y.i (v1 || tstV q.m.sc x)⟩ ⟨by dsimp only; omega, hKn⟩ (by dsimp only; omega) (by repeat (first | exact trivial | refine ⟨rfl, ?_⟩)) (by repeat (first | exact SubL.nil | (apply SubL.cons; (repeat (first | exact At.here | apply At.there))) | exact SubL.refl _ | apply SubL.skip)); done)
          · skip
            have he1 : e = true := by have g8 : (!e) = false := h9; simpa using g8
            rw [he1] at he
            refine skp (h := ?_)
            refine q_seq (h := ?_)
            refine sq (h := ?_)
            refine rg (h := ?_)
            refine WL.y (hy := (by first | exact fa | exact faE)) (h := ?_)
            refine WL.y (hy := (by first | exact ld | exact ldE)) (h := ?_)
            refine nl (h := ?_)
            refine q_seq (h := ?_)
            refine bk (h := ?_)
            refine sq (h := ?_)
            refine rg (h := ?_)
            refine WL.y (hy := eql) (h := ?_)
            refine WL.y (hy := asg) (h := ?_)
            refine nl (h := ?_)
            refine q_seq (h := ?_)
            refine cd (by exact rfl) (fun h10 => ?_) (fun h10 => ?_)
            · skip
              have hk1 : x.kind = 1 := of_decide_eq_true h10
              refine sq (h := ?_)
              refine rgD (by kernel_rfl) [(1000000, .blk b4 40 x.cells), (1000000, .ro P 1 n (encI ps))] (by repeat (first | exact HS.nil | (apply HS.keep; (repeat (first | exact At.here | apply At.there))) | (apply HS.ro; (repeat (first | exact Rds.ro | exact Rds.own | apply Rds.there))))) (h := ?_)
              refine tk 0 (hy := mv) (h := ?_)
              refine tk 1 (hy := addI (hb := by omega)) (h := ?_)
              refine tk 2 (hy := mv) (h := ?_)
              refine tk 3 (hy := lenS) (h := ?_)
              refine tk 4 (hy := lss) (h := ?_)
              refine tk 5 (hy := mv) (h := ?_)
              refine brH (g := 137) (by exact rfl) (fun hb11 => ?_) (fun hb11 => ?_)
              · skip
                have hin : y.i + 1 ≤ n := by have := of_decide_eq_true hb11; omega
                obtain ⟨p, hp⟩ : ∃ p, ps[y.i]? = some p := ⟨_, List.getElem?_eq_getElem (by omega)⟩
                have hpe := encI_at hp
                refine tk 6 (hy := (by first | exact fa | exact faE)) (h := ?_)
                refine tk 7 (hy := (by first | exact ld | exact ldE)) (h := ?_)
                refine tk 8 (hy := eql) (h := ?_)
                refine tk 9 (hy := mv) (h := ?_)
                refine brH (g := 141) (by exact rfl) (fun hb12 => ?_) (fun hb12 => ?_)
                · skip
                  have hs1 : x.side = -1 := of_decide_eq_true hb12
                  refine tkS 10 (h := ?_)
                  refine tkS 11 (h := ?_)
                  refine tkS 12 (h := ?_)
                  refine tkS 13 (h := ?_)
                  refine tkS 14 (h := ?_)
                  refine tkS 15 (h := ?_)
                  refine tkS 16 (h := ?_)
                  refine tk 17 (hy := (by first | exact pkT | exact pkF)) (h := ?_)
                  refine tk 18 (hy := (by first | exact pkT | exact pkF)) (h := ?_)
                  refine dn (h := ?_)
                  refine q_seq (h := ?_)
                  refine cdT (h := ?_)
                  have hKn := hyK.one hk1 he hlp hin (by first | exact .inl hs1 | exact .inr (by rw [hp]; exact congrArg some (of_decide_eq_true (by assumption))))
                  refine rg (h := ?_)
                  refine WL.y (hy := mv) (h := ?_)
                  refine WL.y (hy := mv) (h := ?_)
                  refine WL.y (hy := addI (hb := by omega)) (h := ?_)
                  refine WL.y (hy := ix (A := some ⟨bM, 0, none⟩) (m := n + 1) (hb := by omega)) (h := ?_)
                  refine stE (A := some ⟨bM, 0, none⟩) (k := y.i + 1) (j := 0) (hk := encB_get (List.getElem?_eq_getElem (by have := hyK.len; omega))) (h := ?_)
                  rw [show (encB y.bt).set (y.i + 1) ([Value.bool _].set 0 (.bool true)) = encB (y.bt.set (y.i + 1) true) from encB_set _ _ _]
                  refine nl (h := ?_)
                  refine q_blk_norm (h := ?_)
                  refine q_blk_norm (h := ?_)
                  refine q_seq (h := ?_)
                  refine rg (h := ?_)
                  refine WL.y (hy := mv) (h := ?_)
                  refine WL.y (hy := addI) (h := ?_)
                  refine WL.y (hy := asg) (h := ?_)
                  refine WL.cut (by repeat (first | exact Cut.nil | apply Cut.hit | apply Cut.miss (by exact rfl))) ?_
                  refine nl (h := ?_)
                  first
                    | (refine rn (x := y) ⟨y.i + 1, y.bt⟩ ⟨by dsimp only; omega, hKn⟩ (by dsimp only; omega) (by repeat (first | exact trivial | refine ⟨rfl, ?_⟩)) (by repeat (first | exact SubL.nil | (apply SubL.cons; (repeat (first | exact At.here | apply At.there))) | exact SubL.refl _ | apply SubL.skip)); done)
                    | (refine rn (x := y) ⟨y.i + 1, y.bt.set (y.i + 1) true⟩ ⟨by dsimp only; omega, hKn⟩ (by dsimp only; omega) (by repeat (first | exact trivial | refine ⟨rfl, ?_⟩)) (by repeat (first | exact SubL.nil | (apply SubL.cons; (repeat (first | exact At.here | apply At.there))) | exact SubL.refl _ | apply SubL.skip)); done)
                    | (refine rn (x := y) ⟨y.i + 1, g.2⟩ ⟨by dsimp only; omega, hKn⟩ (by dsimp only; omega) (by repeat (first | exact trivial | refine ⟨rfl, ?_⟩)) (by repeat (first | exact SubL.nil | (apply SubL.cons; (repeat (first | exact At.here | apply At.there))) | exact SubL.refl _ | apply SubL.skip)); done)
                    | (refine rn (x := y) ⟨y.i + 1, y.bt.set y.i (v1 || tstV q.m.sc x)⟩ ⟨by dsimp only; omega, hKn⟩ (by dsimp only; omega) (by repeat (first | exact trivial | refine ⟨rfl, ?_⟩)) (by repeat (first | exact SubL.nil | (apply SubL.cons; (repeat (first | exact At.here | apply At.there))) | exact SubL.refl _ | apply SubL.skip)); done)
                · skip
                  have hs1 : ¬ x.side = -1 := of_decide_eq_false hb12
                  refine tk 10 (hy := mv) (h := ?_)
                  refine tk 11 (hy := mv) (h := ?_)
                  refine tk 12 (hy := ix (A := P) (m := n) (hb := by omega)) (h := ?_)
                  refine tk 13 (hy := ldE (A := P) (k := y.i) (hk := hpe)) (h := ?_)
                  refine tk 14 (hy := (by first | exact fa | exact faE)) (h := ?_)
                  refine tk 15 (hy := (by first | exact ld | exact ldE)) (h := ?_)
                  refine tk 16 (hy := eql) (h := ?_)
                  refine tk 17 (hy := (by first | exact pkT | exact pkF)) (h := ?_)
                  refine tk 18 (hy := (by first | exact pkT | exact pkF)) (h := ?_)
                  refine dn (h := ?_)
                  refine q_seq (h := ?_)
                  refine cd (by exact rfl) (fun h14 => ?_) (fun h14 => ?_)
                  · skip
                    have hKn := hyK.one hk1 he hlp hin (by first | exact .inl hs1 | exact .inr (by rw [hp]; exact congrArg some (of_decide_eq_true (by assumption))))
                    refine rg (h := ?_)
                    refine WL.y (hy := mv) (h := ?_)
                    refine WL.y (hy := mv) (h := ?_)
                    refine WL.y (hy := addI (hb := by omega)) (h := ?_)
                    refine WL.y (hy := ix (A := some ⟨bM, 0, none⟩) (m := n + 1) (hb := by omega)) (h := ?_)
                    refine stE (A := some ⟨bM, 0, none⟩) (k := y.i + 1) (j := 0) (hk := encB_get (List.getElem?_eq_getElem (by have := hyK.len; omega))) (h := ?_)
                    rw [show (encB y.bt).set (y.i + 1) ([Value.bool _].set 0 (.bool true)) = encB (y.bt.set (y.i + 1) true) from encB_set _ _ _]
                    refine nl (h := ?_)
                    refine q_blk_norm (h := ?_)
                    refine q_blk_norm (h := ?_)
                    refine q_seq (h := ?_)
                    refine rg (h := ?_)
                    refine WL.y (hy := mv) (h := ?_)
                    refine WL.y (hy := addI) (h := ?_)
                    refine WL.y (hy := asg) (h := ?_)
                    refine WL.cut (by repeat (first | exact Cut.nil | apply Cut.hit | apply Cut.miss (by exact rfl))) ?_
                    refine nl (h := ?_)
                    first
                      | (refine rn (x := y) ⟨y.i + 1, y.bt⟩ ⟨by dsimp only; omega, hKn⟩ (by dsimp only; omega) (by repeat (first | exact trivial | refine ⟨rfl, ?_⟩)) (by repeat (first | exact SubL.nil | (apply SubL.cons; (repeat (first | exact At.here | apply At.there))) | exact SubL.refl _ | apply SubL.skip)); done)
                      | (refine rn (x := y) ⟨y.i + 1, y.bt.set (y.i + 1) true⟩ ⟨by dsimp only; omega, hKn⟩ (by dsimp only; omega) (by repeat (first | exact trivial | refine ⟨rfl, ?_⟩)) (by repeat (first | exact SubL.nil | (apply SubL.cons; (repeat (first | exact At.here | apply At.there))) | exact SubL.refl _ | apply SubL.skip)); done)
                      | (refine rn (x := y) ⟨y.i + 1, g.2⟩ ⟨by dsimp only; omega, hKn⟩ (by dsimp only; omega) (by repeat (first | exact trivial | refine ⟨rfl, ?_⟩)) (by repeat (first | exact SubL.nil | (apply SubL.cons; (repeat (first | exact At.here | apply At.there))) | exact SubL.refl _ | apply SubL.skip)); done)
                      | (refine rn (x := y) ⟨y.i + 1, y.bt.set y.i (v1 || tstV q.m.sc x)⟩ ⟨by dsimp only; omega, hKn⟩ (by dsimp only; omega) (by repeat (first | exact trivial | refine ⟨rfl, ?_⟩)) (by repeat (first | exact SubL.nil | (apply SubL.cons; (repeat (first | exact At.here | apply At.there))) | exact SubL.refl _ | apply SubL.skip)); done)
                  · skip
                    have hKn := hyK.one_no hk1 hlp (by first | exact fun h9 => hin h9.1 | exact fun h9 => h9.2.elim hs1 (fun h8 => by rw [hp] at h8; have h7 : decide (p = x.side) = false := (by assumption); exact of_decide_eq_false h7 (Option.some.inj h8)))
                    refine skp (h := ?_)
                    refine q_blk_norm (h := ?_)
                    refine q_blk_norm (h := ?_)
                    refine q_seq (h := ?_)
                    refine rg (h := ?_)
                    refine WL.y (hy := mv) (h := ?_)
                    refine WL.y (hy := addI) (h := ?_)
                    refine WL.y (hy := asg) (h := ?_)
                    refine WL.cut (by repeat (first | exact Cut.nil | apply Cut.hit | apply Cut.miss (by exact rfl))) ?_
                    refine nl (h := ?_)
                    first
                      | (refine rn (x := y) ⟨y.i + 1, y.bt⟩ ⟨by dsimp only; omega, hKn⟩ (by dsimp only; omega) (by repeat (first | exact trivial | refine ⟨rfl, ?_⟩)) (by repeat (first | exact SubL.nil | (apply SubL.cons; (repeat (first | exact At.here | apply At.there))) | exact SubL.refl _ | apply SubL.skip)); done)
                      | (refine rn (x := y) ⟨y.i + 1, y.bt.set (y.i + 1) true⟩ ⟨by dsimp only; omega, hKn⟩ (by dsimp only; omega) (by repeat (first | exact trivial | refine ⟨rfl, ?_⟩)) (by repeat (first | exact SubL.nil | (apply SubL.cons; (repeat (first | exact At.here | apply At.there))) | exact SubL.refl _ | apply SubL.skip)); done)
                      | (refine rn (x := y) ⟨y.i + 1, g.2⟩ ⟨by dsimp only; omega, hKn⟩ (by dsimp only; omega) (by repeat (first | exact trivial | refine ⟨rfl, ?_⟩)) (by repeat (first | exact SubL.nil | (apply SubL.cons; (repeat (first | exact At.here | apply At.there))) | exact SubL.refl _ | apply SubL.skip)); done)
                      | (refine rn (x := y) ⟨y.i + 1, y.bt.set y.i (v1 || tstV q.m.sc x)⟩ ⟨by dsimp only; omega, hKn⟩ (by dsimp only; omega) (by repeat (first | exact trivial | refine ⟨rfl, ?_⟩)) (by repeat (first | exact SubL.nil | (apply SubL.cons; (repeat (first | exact At.here | apply At.there))) | exact SubL.refl _ | apply SubL.skip)); done)
              · skip
                have hin : ¬ y.i + 1 ≤ n := by have := of_decide_eq_false hb11; omega
                refine tkS 6 (h := ?_)
                refine tkS 7 (h := ?_)
                refine tkS 8 (h := ?_)
                refine tkS 9 (h := ?_)
                refine tkS 10 (h := ?_)
                refine tkS 11 (h := ?_)
                refine tkS 12 (h := ?_)
                refine tkS 13 (h := ?_)
                refine tkS 14 (h := ?_)
                refine tkS 15 (h := ?_)
                refine tkS 16 (h := ?_)
                refine tkS 17 (h := ?_)
                refine tk 18 (hy := (by first | exact pkT | exact pkF)) (h := ?_)
                refine dn (h := ?_)
                refine q_seq (h := ?_)
                refine cdF (h := ?_)
                have hKn := hyK.one_no hk1 hlp (by first | exact fun h9 => hin h9.1 | exact fun h9 => h9.2.elim hs1 (fun h8 => by rw [hp] at h8; have h7 : decide (p = x.side) = false := (by assumption); exact of_decide_eq_false h7 (Option.some.inj h8)))
                refine skp (h := ?_)
                refine q_blk_norm (h := ?_)
                refine q_blk_norm (h := ?_)
                refine q_seq (h := ?_)
                refine rg (h := ?_)
                refine WL.y (hy := mv) (h := ?_)
                refine WL.y (hy := addI) (h := ?_)
                refine WL.y (hy := asg) (h := ?_)
                refine WL.cut (by repeat (first | exact Cut.nil | apply Cut.hit | apply Cut.miss (by exact rfl))) ?_
                refine nl (h := ?_)
                first
                  | (refine rn (x := y) ⟨y.i + 1, y.bt⟩ ⟨by dsimp only; omega, hKn⟩ (by dsimp only; omega) (by repeat (first | exact trivial | refine ⟨rfl, ?_⟩)) (by repeat (first | exact SubL.nil | (apply SubL.cons; (repeat (first | exact At.here | apply At.there))) | exact SubL.refl _ | apply SubL.skip)); done)
                  | (refine rn (x := y) ⟨y.i + 1, y.bt.set (y.i + 1) true⟩ ⟨by dsimp only; omega, hKn⟩ (by dsimp only; omega) (by repeat (first | exact trivial | refine ⟨rfl, ?_⟩)) (by repeat (first | exact SubL.nil | (apply SubL.cons; (repeat (first | exact At.here | apply At.there))) | exact SubL.refl _ | apply SubL.skip)); done)
                  | (refine rn (x := y) ⟨y.i + 1, g.2⟩ ⟨by dsimp only; omega, hKn⟩ (by dsimp only; omega) (by repeat (first | exact trivial | refine ⟨rfl, ?_⟩)) (by repeat (first | exact SubL.nil | (apply SubL.cons; (repeat (first | exact At.here | apply At.there))) | exact SubL.refl _ | apply SubL.skip)); done)
                  | (refine rn (x := y) ⟨y.i + 1, y.bt.set y.i (v1 || tstV q.m.sc x)⟩ ⟨by dsimp only; omega, hKn⟩ (by dsimp only; omega) (by repeat (first | exact trivial | refine ⟨rfl, ?_⟩)) (by repeat (first | exact SubL.nil | (apply SubL.cons; (repeat (first | exact At.here | apply At.there))) | exact SubL.refl _ | apply SubL.skip)); done)
            · skip
              have hk1 : ¬ x.kind = 1 := of_decide_eq_false h10
              refine sq (h := ?_)
              refine rg (h := ?_)
              refine WL.y (hy := eql) (h := ?_)
              refine WL.y (hy := asg) (h := ?_)
              refine nl (h := ?_)
              refine q_seq (h := ?_)
              refine cd (by exact rfl) (fun h16 => ?_) (fun h16 => ?_)
              · skip
                have hk2 : x.kind = 2 := of_decide_eq_true h16
                have hpb := hxm.2.2.1 hk2
                obtain ⟨a, ha⟩ : ∃ a : Nat, (a : Int) = x.pair.1 := ⟨x.pair.1.toNat, by omega⟩
                refine sq (h := ?_)
                refine rg (h := ?_)
                refine WL.y (hy := (by first | exact fa | exact faE)) (h := ?_)
                refine WL.y (hy := (by first | exact fa | exact faE)) (h := ?_)
                refine WL.y (hy := (by first | exact ld | exact ldE)) (h := ?_)
                refine WL.y (hy := asg) (h := ?_)
                refine WL.cut (by repeat (first | exact Cut.nil | apply Cut.hit | apply Cut.miss (by exact rfl))) ?_
                refine nl (h := ?_)
                refine q_seq (h := ?_)
                refine bk (h := ?_)
                refine lp (X := Nat × List Bool) (I := fun g => PI x y.bt n y.i g.1 g.2) (le := fun g => [(2, .slice P n cp), (3, .pointer (some ⟨b0, 0, none⟩)), (8, .slice zm.A (n + 1) zm.c), (10, .slice v.A (n + 1) v.c), (11, .int .i64 v.j), (12, .pointer (some ⟨b4, 0, none⟩)), (13, .slice (some ⟨bM, 0, none⟩) (n + 1) (n + 1)), (14, .int .i64 y.i), (15, .int .i64 g.1)]) (Le := fun g => [.own (some ⟨bM, 0, none⟩) (n + 1) 4 1 (n + 1) (encB g.2), .blk b4 40 x.cells, .own v.A v.c 4 1 (n + 1) (encB v.bs), .own zm.A zm.c 73 12 (n + 1) (encM zm.ms), manyE true zm.U, .blk b0 26 (cardC f cf A na c), .ro P 1 n (encI ps), .ro A 4 na (encN xs)]) (μ := fun g => n + 1 - g.1) (a, y.bt) (PI.start hyK.len ha) (by repeat (first | exact trivial | refine ⟨rfl, ?_⟩ | refine ⟨by rw [ha]; rfl, ?_⟩)) (by repeat (first | exact SubL.nil | (apply SubL.cons; (repeat (first | exact At.here | apply At.there))) | exact SubL.refl _ | apply SubL.skip)) (fun g hg => ?_)
                have hgk := hg.kb
                refine sq (h := ?_)
                refine sq (h := ?_)
                refine rg (h := ?_)
                refine WL.y (hy := mv) (h := ?_)
                refine WL.y (hy := (by first | exact fa | exact faE)) (h := ?_)
                refine WL.y (hy := (by first | exact fa | exact faE)) (h := ?_)
                refine WL.y (hy := (by first | exact ld | exact ldE)) (h := ?_)
                refine WL.y (hy := leq) (h := ?_)
                refine WL.y (hy := mv) (h := ?_)
                apply brAnd 7 165 172 (by exact rfl)
                · intro hb17
                  refine un (h := ?_)
                  refine WL.y (hy := mv) (h := ?_)
                  refine un (h := ?_)
                  refine WL.y (hy := mv) (h := ?_)
                  refine un (h := ?_)
                  refine WL.y (hy := addI (hb := by omega)) (h := ?_)
                  refine un (h := ?_)
                  refine WL.y (hy := mv) (h := ?_)
                  refine un (h := ?_)
                  refine WL.y (hy := lenS) (h := ?_)
                  refine un (h := ?_)
                  refine WL.y (hy := lss) (h := ?_)
                  refine WL.y (hy := (by first | exact pkT | exact pkF)) (h := ?_)
                  exact mg (by repeat (first | exact trivial | refine ⟨rfl, ?_⟩ | refine ⟨by rw [hb17]; rfl, ?_⟩)) (by repeat (first | exact SubL.nil | (apply SubL.cons; (repeat (first | exact At.here | apply At.there))) | exact SubL.refl _ | apply SubL.skip))
                · intro hb17
                  repeat (first | refine un (h := ?_) | refine sk (h := ?_) | refine WL.y (hy := pkF) (h := ?_) | refine WL.y (hy := pkT) (h := ?_))
                  exact mg (by repeat (first | exact trivial | refine ⟨rfl, ?_⟩ | refine ⟨by rw [hb17]; rfl, ?_⟩)) (by repeat (first | exact SubL.nil | (apply SubL.cons; (repeat (first | exact At.here | apply At.there))) | exact SubL.refl _ | apply SubL.skip))
                refine nl (h := ?_)
                refine q_seq (h := ?_)
                refine cd (by exact rfl) (fun h18 => ?_) (fun h18 => ?_)
                · skip
                  have hk9 : (g.1 : Int) ≤ x.pair.2 ∧ y.i + g.1 < n + 1 := by
                    have g9 := h18
                    rw [Bool.and_eq_true, decide_eq_true_eq, decide_eq_true_eq] at g9
                    omega
                  have hgn := hg.next hk9.1 hk9.2
                  refine skp (h := ?_)
                  refine q_seq (h := ?_)
                  refine sq (h := ?_)
                  refine bk (h := ?_)
                  refine rg (h := ?_)
                  refine WL.y (hy := mv) (h := ?_)
                  refine WL.y (hy := mv) (h := ?_)
                  refine WL.y (hy := mv) (h := ?_)
                  refine WL.y (hy := addI (hb := by omega)) (h := ?_)
                  refine WL.y (hy := ix (A := some ⟨bM, 0, none⟩) (m := n + 1) (hb := by omega)) (h := ?_)
                  refine stE (A := some ⟨bM, 0, none⟩) (k := y.i + g.1) (j := 0) (hk := encB_get (List.getElem?_eq_getElem (by have := hg.len; omega))) (h := ?_)
                  rw [show (encB g.2).set (y.i + g.1) ([Value.bool _].set 0 (.bool true)) = encB (g.2.set (y.i + g.1) true) from encB_set _ _ _]
                  refine nl (h := ?_)
                  refine q_blk_norm (h := ?_)
                  refine q_seq (h := ?_)
                  refine rg (h := ?_)
                  refine WL.y (hy := mv) (h := ?_)
                  refine WL.y (hy := addI) (h := ?_)
                  refine WL.y (hy := asg) (h := ?_)
                  refine WL.cut (by repeat (first | exact Cut.nil | apply Cut.hit | apply Cut.miss (by exact rfl))) ?_
                  refine nl (h := ?_)
                  refine rn (x := g) (g.1 + 1, g.2.set (y.i + g.1) true) hgn (by dsimp only; omega) (by repeat (first | exact trivial | refine ⟨rfl, ?_⟩)) (by repeat (first | exact SubL.nil | (apply SubL.cons; (repeat (first | exact At.here | apply At.there))) | exact SubL.refl _ | apply SubL.skip))
                · skip
                  have hk9 : ¬ ((g.1 : Int) ≤ x.pair.2 ∧ y.i + g.1 < n + 1) := fun g8 => by
                    have g9 := h18
                    rw [Bool.and_eq_false_iff, decide_eq_false_iff_not, decide_eq_false_iff_not] at g9
                    omega
                  have hKn := hg.done hk2 ⟨hpb.2.1, hpb.2.2.1⟩ (by omega) hk9 he hlp hyK
                  refine et (h := ?_)
                  refine q_then_exit (h := ?_)
                  refine q_then_exit (h := ?_)
                  refine q_blk_hit (h := ?_)
                  refine q_blk_norm (h := ?_)
                  refine q_blk_norm (h := ?_)
                  refine q_seq (h := ?_)
                  refine rg (h := ?_)
                  refine WL.y (hy := mv) (h := ?_)
                  refine WL.y (hy := addI) (h := ?_)
                  refine WL.y (hy := asg) (h := ?_)
                  refine WL.cut (by repeat (first | exact Cut.nil | apply Cut.hit | apply Cut.miss (by exact rfl))) ?_
                  refine nl (h := ?_)
                  first
                    | (refine rn (x := y) ⟨y.i + 1, y.bt⟩ ⟨by dsimp only; omega, hKn⟩ (by dsimp only; omega) (by repeat (first | exact trivial | refine ⟨rfl, ?_⟩)) (by repeat (first | exact SubL.nil | (apply SubL.cons; (repeat (first | exact At.here | apply At.there))) | exact SubL.refl _ | apply SubL.skip)); done)
                    | (refine rn (x := y) ⟨y.i + 1, y.bt.set (y.i + 1) true⟩ ⟨by dsimp only; omega, hKn⟩ (by dsimp only; omega) (by repeat (first | exact trivial | refine ⟨rfl, ?_⟩)) (by repeat (first | exact SubL.nil | (apply SubL.cons; (repeat (first | exact At.here | apply At.there))) | exact SubL.refl _ | apply SubL.skip)); done)
                    | (refine rn (x := y) ⟨y.i + 1, g.2⟩ ⟨by dsimp only; omega, hKn⟩ (by dsimp only; omega) (by repeat (first | exact trivial | refine ⟨rfl, ?_⟩)) (by repeat (first | exact SubL.nil | (apply SubL.cons; (repeat (first | exact At.here | apply At.there))) | exact SubL.refl _ | apply SubL.skip)); done)
                    | (refine rn (x := y) ⟨y.i + 1, y.bt.set y.i (v1 || tstV q.m.sc x)⟩ ⟨by dsimp only; omega, hKn⟩ (by dsimp only; omega) (by repeat (first | exact trivial | refine ⟨rfl, ?_⟩)) (by repeat (first | exact SubL.nil | (apply SubL.cons; (repeat (first | exact At.here | apply At.there))) | exact SubL.refl _ | apply SubL.skip)); done)
              · skip
                have hk2 : ¬ x.kind = 2 := of_decide_eq_false h16
                obtain ⟨q, hq⟩ : ∃ q, zm.ms[y.i]? = some q := ⟨_, List.getElem?_eq_getElem (by omega)⟩
                have hqe := encM_at hq
                obtain ⟨hqp, hqs, _⟩ := hzm.ok y.i q hq
                obtain ⟨hqf, hq1, hqi⟩ := playTo_inv hf hqp
                have hqb := playTo_bd hf hfs (by omega) hqp
                have hql : q.m.st.length ≤ 1000000 := by have := hqb.s; omega
                obtain ⟨v1, hv1⟩ : ∃ v1, y.bt[y.i]? = some v1 := ⟨_, List.getElem?_eq_getElem (by have := hyK.len; omega)⟩
                have hv1e := encB_get hv1
                have hKn := hyK.test hk1 hk2 he (by omega) hv1 ((tst_hold (x := x) hqf (playTo_rch hf hqp) (by rw [hq1]; omega) (by have := hxm.1; omega)).trans (by rw [(play_spot hf hqp).1]))
                refine sq (h := ?_)
                refine rg (h := ?_)
                refine WL.y (hy := mv) (h := ?_)
                refine WL.y (hy := mv) (h := ?_)
                refine WL.y (hy := ix (A := zm.A) (m := n + 1) (hb := by omega)) (h := ?_)
                refine WL.y (hy := (by first | exact fa | exact faE)) (h := ?_)
                refine WL.y (hy := ldEA (A := zm.A) (k := y.i) (hk := hqe)) (h := ?_)
                refine al (h := fun b5 => ?_)
                first | refine stA (h := ?_) | refine stEA (h := ?_)
                refine nl (h := ?_)
                refine q_seq (h := ?_)
                refine sq (h := ?_)
                refine WC.getRow hqs (by repeat (first | exact At.here | apply At.there)) ?_
                refine rgD (by kernel_rfl) [(8, .blk b5 55 [.slice q.sA q.m.st.length q.sc, .int .i64 q.m.g.1, .int .i64 q.m.g.2, .int .i64 q.m.p.1, .int .i64 q.m.p.2, .int .i64 0, .int .i64 q.m.ends, .int .i64 q.m.balls, .int .i64 q.m.winner]), (1000000, .own zm.A zm.c 73 12 (n + 1) (encM zm.ms)), (1000000, .blk b0 26 (cardC f cf A na c))] (by repeat (first | exact HS.nil | (apply HS.keep; (repeat (first | exact At.here | apply At.there))) | (apply HS.ro; (repeat (first | exact Rds.ro | exact Rds.own | apply Rds.there))))) (h := ?_)
                refine tk 0 (hy := (by first | exact fa | exact faE)) (h := ?_)
                refine tk 1 (hy := (by first | exact ldA | exact ldEA)) (h := ?_)
                refine tk 2 (hy := mv) (h := ?_)
                refine tk 3 (hy := mv) (h := ?_)
                refine tk 4 (hy := ix (A := zm.A) (m := n + 1) (hb := by omega)) (h := ?_)
                refine tk 5 (hy := ldEA (A := zm.A) (k := y.i) (hk := hqe)) (h := ?_)
                refine one 6 (h := ?_)
                refine cl0 (hc := fun w hS => C_ref1_Next f q.m hqf q.sA q.sc q.gA q.gc hf (by rw [hq1]; omega) hqi hqb w (hS.get (by repeat (first | exact Rds.ro | exact Rds.own | apply Rds.there)))) (h := ?_)
                refine nx (h := ?_)
                refine tk 7 (hy := (by first | exact fa | exact faE)) (h := ?_)
                refine one 8 (h := ?_)
                first | refine st (h := ?_) | refine stE (h := ?_)
                refine nx (h := ?_)
                refine dn (h := ?_)
                refine q_seq (h := ?_)
                refine rg (h := ?_)
                refine WL.y (hy := mv) (h := ?_)
                refine WL.y (hy := mv) (h := ?_)
                refine WL.y (hy := mv) (h := ?_)
                refine WL.y (hy := mv) (h := ?_)
                refine WL.y (hy := ix (A := some ⟨bM, 0, none⟩) (m := n + 1) (hb := by omega)) (h := ?_)
                refine WL.y (hy := ldE (A := some ⟨bM, 0, none⟩) (k := y.i) (hk := hv1e)) (h := ?_)
                refine WL.y (hy := mv) (h := ?_)
                apply brOr 4 124 128 (by exact rfl)
                · intro hb19
                  refine un (h := ?_)
                  refine WL.y (hy := (by first | exact ldA | exact ldEA)) (h := ?_)
                  refine un (h := ?_)
                  refine WL.y (hy := (by first | exact ldA | exact ldEA)) (h := ?_)
                  refine un (h := ?_)
                  refine cl0 (hc := fun w hS => C_ref3_True q.m.sc q.sA q.sc x w (hS.get (by repeat (first | exact Rds.ro | exact Rds.own | apply Rds.there))) hql) (h := ?_)
                  refine WL.y (hy := (by first | exact pkT | exact pkF)) (h := ?_)
                  exact mg (by repeat (first | exact trivial | refine ⟨rfl, ?_⟩ | refine ⟨by rw [hb19]; rfl, ?_⟩)) (by repeat (first | exact SubL.nil | (apply SubL.cons; (repeat (first | exact At.here | apply At.there))) | exact SubL.refl _ | apply SubL.skip))
                · intro hb19
                  repeat (first | refine un (h := ?_) | refine sk (h := ?_) | refine WL.y (hy := pkF) (h := ?_) | refine WL.y (hy := pkT) (h := ?_))
                  exact mg (by repeat (first | exact trivial | refine ⟨rfl, ?_⟩ | refine ⟨by rw [hb19]; rfl, ?_⟩)) (by repeat (first | exact SubL.nil | (apply SubL.cons; (repeat (first | exact At.here | apply At.there))) | exact SubL.refl _ | apply SubL.skip))
                refine WL.y (hy := ix (A := some ⟨bM, 0, none⟩) (m := n + 1) (hb := by omega)) (h := ?_)
                refine stE (A := some ⟨bM, 0, none⟩) (k := y.i) (j := 0) (hk := hv1e) (h := ?_)
                rw [show (encB y.bt).set y.i ([Value.bool v1].set 0 (.bool (v1 || tstV q.m.sc x))) = encB (y.bt.set y.i (v1 || tstV q.m.sc x)) from encB_set _ _ _]
                refine nl (h := ?_)
                refine q_blk_norm (h := ?_)
                refine q_blk_norm (h := ?_)
                refine q_seq (h := ?_)
                refine rg (h := ?_)
                refine WL.y (hy := mv) (h := ?_)
                refine WL.y (hy := addI) (h := ?_)
                refine WL.y (hy := asg) (h := ?_)
                refine WL.cut (by repeat (first | exact Cut.nil | apply Cut.hit | apply Cut.miss (by exact rfl))) ?_
                refine nl (h := ?_)
                first
                  | (refine rn (x := y) ⟨y.i + 1, y.bt⟩ ⟨by dsimp only; omega, hKn⟩ (by dsimp only; omega) (by repeat (first | exact trivial | refine ⟨rfl, ?_⟩)) (by repeat (first | exact SubL.nil | (apply SubL.cons; (repeat (first | exact At.here | apply At.there))) | exact SubL.refl _ | apply SubL.skip)); done)
                  | (refine rn (x := y) ⟨y.i + 1, y.bt.set (y.i + 1) true⟩ ⟨by dsimp only; omega, hKn⟩ (by dsimp only; omega) (by repeat (first | exact trivial | refine ⟨rfl, ?_⟩)) (by repeat (first | exact SubL.nil | (apply SubL.cons; (repeat (first | exact At.here | apply At.there))) | exact SubL.refl _ | apply SubL.skip)); done)
                  | (refine rn (x := y) ⟨y.i + 1, g.2⟩ ⟨by dsimp only; omega, hKn⟩ (by dsimp only; omega) (by repeat (first | exact trivial | refine ⟨rfl, ?_⟩)) (by repeat (first | exact SubL.nil | (apply SubL.cons; (repeat (first | exact At.here | apply At.there))) | exact SubL.refl _ | apply SubL.skip)); done)
                  | (refine rn (x := y) ⟨y.i + 1, y.bt.set y.i (v1 || tstV q.m.sc x)⟩ ⟨by dsimp only; omega, hKn⟩ (by dsimp only; omega) (by repeat (first | exact trivial | refine ⟨rfl, ?_⟩)) (by repeat (first | exact SubL.nil | (apply SubL.cons; (repeat (first | exact At.here | apply At.there))) | exact SubL.refl _ | apply SubL.skip)); done)
        · skip
          have hin1 : y.i = n + 1 := by have := of_decide_eq_false h8; omega
          have hvn : ∀ t, y.bt[t]? = some true ↔ Fit f first ps xs (v.j + 1) t := fun t => by
            rw [hyK.ok t]
            constructor
            · rintro ⟨m, _, hm, hh⟩
              exact ⟨x, m, hx, (hvb m).1 hm, hh⟩
            · rintro ⟨x', m, hx', hm, hh⟩
              rw [hx] at hx'; cases hx'
              exact ⟨m, by have := fit_le hm; omega, (hvb m).2 hm, hh⟩
          refine et (h := ?_)
          refine q_then_exit (h := ?_)
          refine q_then_exit (h := ?_)
          refine q_blk_hit (h := ?_)
          refine q_seq (h := ?_)
          refine rg (h := ?_)
          refine WL.y (hy := mv) (h := ?_)
          refine WL.y (hy := asg) (h := ?_)
          refine WL.cut (by repeat (first | exact Cut.nil | apply Cut.hit | apply Cut.miss (by exact rfl))) ?_
          refine nl (h := ?_)
          refine q_blk_norm (h := ?_)
          refine q_seq (h := ?_)
          refine rg (h := ?_)
          refine WL.y (hy := mv) (h := ?_)
          refine WL.y (hy := addI) (h := ?_)
          refine WL.y (hy := asg) (h := ?_)
          refine WL.cut (by repeat (first | exact Cut.nil | apply Cut.hit | apply Cut.miss (by exact rfl))) ?_
          refine nl (h := ?_)
          refine rn (x := v) ⟨v.j + 1, y.bt, some ⟨bM, 0, none⟩, n + 1⟩ ⟨by dsimp only; omega, hyK.len, hvn⟩ (by dsimp only; omega) (by repeat (first | exact trivial | refine ⟨rfl, ?_⟩)) (by repeat (first | exact SubL.nil | (apply SubL.cons; (repeat (first | exact At.here | apply At.there))) | exact SubL.refl _ | apply SubL.skip))
      · skip
        have hjn : v.j = na := by have := of_decide_eq_false h7; omega
        rw [hjn] at hvb
        obtain ⟨r, hr⟩ : ∃ r, v.bs[n]? = some r := ⟨_, List.getElem?_eq_getElem (by omega)⟩
        have hre := encB_get hr
        refine et (h := ?_)
        refine q_then_exit (h := ?_)
        refine q_then_exit (h := ?_)
        refine q_blk_hit (h := ?_)
        refine q_seq (h := ?_)
        refine sq (h := ?_)
        refine rg (h := ?_)
        refine WL.y (hy := mv) (h := ?_)
        refine WL.y (hy := mv) (h := ?_)
        refine WL.y (hy := lenS) (h := ?_)
        refine WL.y (hy := ix (A := v.A) (m := n + 1) (hb := by omega)) (h := ?_)
        refine WL.y (hy := ldE (A := v.A) (k := n) (hk := hre)) (h := ?_)
        refine WL.y (hy := asg) (h := ?_)
        refine nl (h := ?_)
        refine q_seq (h := ?_)
        refine rtn (h := ?_)
        refine q_ret (hR := ?_)
        exact fun w hS => ⟨r, ⟨fun h9 => ⟨hfs, hfc2, by omega, ⟨zm.l.m, by rw [hlp]; exact hzp⟩, by rw [hlx, hlp]; exact (hvb n).1 (h9 ▸ hr)⟩, fun hM => by
          have h9 := (hvb n).2 (by have := hM.fit; rwa [hlx, hlp] at this)
          rw [hr] at h9; exact Option.some.inj h9⟩, rfl, hS.sub (by repeat (first | exact SubL.nil | (apply SubL.cons; (repeat (first | exact At.here | apply At.there))) | exact SubL.refl _ | apply SubL.skip))⟩
end Go.Proofs.Ytncoimjgjpcipaa

namespace Go.Proofs.Ytncoimjgjpcipaa
open Go Go.RowKit

noncomputable def mokB (f : Fmt) (cf first : Int) (xs : List Nt) (ps : List Int) : Bool := @decide (MOk f cf first xs ps) (Classical.propDecidable _)
theorem mokB_iff {f : Fmt} {cf first : Int} {xs : List Nt} {ps : List Int} : mokB f cf first xs ps = true ↔ MOk f cf first xs ps := @decide_eq_true_iff _ (Classical.propDecidable _)
theorem C_ref3_IsMatchB (f : Fmt) (cf : Int) (xs : List Nt) (A : Option Addr) (na c : Nat) (first : Int) (ps : List Int) (P : Option Addr) (n cp : Nat) (w : World) (h : Rd w A 4 na (encN xs)) (h' : Rd w P 1 n (encI ps)) (hn : n ≤ 9223372036854775807) (hx0 : na ≤ 60) (hck : chkC f cf xs = 0) :
    C0 Try.prog 21 [.agg (cardC f cf A na c).toArray, .int .i64 first, .slice P n cp] w (.bool (mokB f cf first xs ps)) := by
  refine ⟨Calls.mono (C_ref3_IsMatch f cf xs A na c first ps P n cp w h h' hn hx0 hck).out fun e w' ⟨b, hb, he, hs⟩ => ⟨?_, hs⟩⟩
  rw [he]
  congr 2
  rw [Bool.eq_iff_iff, hb, mokB_iff]
structure TrM (f : Fmt) (cf first : Int) (xs : List Nt) (ps : List Int) (m : MS) : Prop where
  o : playO f first ps = some m
  k : spotOf m ∈ keyC (crowdC f cf xs)
  lo : (cntC f cf xs).1 ≤ ps.length
  hi : (ps.length : Int) ≤ (cntC f cf xs).2
  f : m.f = f
  fs : m.first = first
  r : Rch m
theorem MOk.play {f : Fmt} {cf first : Int} {xs : List Nt} {ps : List Int} (h : MOk f cf first xs ps) (hR : Rdy f cf xs) : ∃ m, TrM f cf first xs ps m := by
  obtain ⟨m, hm⟩ := h.pl
  obtain ⟨h1, h2⟩ := play_can hR.ok hm
  have h3 := h.fs
  obtain ⟨e, he, e1, e2, e3⟩ := true_match h1 (beg_in h.fs h.cf) h.fit
  obtain ⟨_, _, s3⟩ := span_le (crowdC f cf xs) (600, 0)
  have s4 := s3 e he
  have hc0 := (chk_facts hR.c).1
  have hp : preE f first ps.length = 0 := by
    have hs : sideBad first = false := by rcases h3 with rfl | rfl <;> rfl
    unfold preE
    rw [hc0, hs, decide_eq_false (show ¬ (600 : Int) < ps.length by have := h.n; omega)]; rfl
  refine ⟨m, by rw [playO, hp]; exact hm, by rw [h2, ← e1]; exact List.mem_map.2 ⟨e, he, rfl⟩, ?_, ?_, (playTo_inv hR.ok hm).1, (playTo_inv hR.ok hm).2.1, playTo_rch hR.ok hm⟩
  · show (spanC _ _).1 ≤ _; omega
  · show _ ≤ (spanC _ _).2; omega
end Go.Proofs.Ytncoimjgjpcipaa

namespace Go.Proofs.Ytncoimjgjpcipaa
open Go Go.RowKit

structure ShtOk (f : Fmt) (cf : Int) (xs : List Nt) (s : ShR) : Prop where
  no : posE f cf xs ≠ 0 → s.first = 0 ∧ s.r = []
  yes : posE f cf xs = 0 → ∃ u, u ∈ keyC (crowdC f cf xs) ∧ Row_ f cf xs xs.length u s.first s.r
  len : s.r.length ≤ 500
theorem C_card_ShowT (f : Fmt) (cf : Int) (xs : List Nt) (A : Option Addr) (n c : Nat) (w : World) (h : Rd w A 4 n (encN xs)) (hn : n ≤ 9223372036854775807) (hsm : chkC f cf xs = 0 → mostS xs ≤ 400) :
    CR Try.prog 18 [.agg (cardC f cf A n c).toArray] w (ShtOk f cf xs) (fun s => .tuple #[.int .i64 s.first, .slice s.A s.r.length s.c, .int .i64 (posE f cf xs)]) (fun s => [.own s.A s.c 3 1 s.r.length (encI s.r)]) := by
  refine ⟨Calls.mono (C_card_Show f cf xs A n c w h hn hsm).out fun e w' ⟨o, ho, he, hs⟩ => ?_⟩
  cases o with
  | none => exact ⟨⟨0, [], none, 0⟩, ⟨fun _ => ⟨rfl, rfl⟩, fun h0 => absurd h0 ho, Nat.zero_le _⟩, he, hs.nilOwn _ _⟩
  | some s =>
    obtain ⟨h1, h2, u, h3, h4, h5⟩ := ho
    exact ⟨s, ⟨fun h0 => absurd h1 h0, fun _ => ⟨u, h3, h5⟩, h4⟩, he, hs⟩
theorem row_ok {f : Fmt} {cf first : Int} {xs : List Nt} {u : Spot} {r : List Int} (hf : f.Ok) (h : Row_ f cf xs xs.length u first r) (hl : r.length ≤ 500) : MOk f cf first xs r := by
  obtain ⟨m, hm, _⟩ := can_play hf h.can r.length (Nat.le_refl _)
  exact ⟨h.fs, h.cf, by omega, ⟨m, hm⟩, h.fit⟩
theorem same_brds {xa xb : List Brd} {k : Nat} (htk : xa.take k = xb.take k) (hl : xa.length = xb.length) (hk : k = xa.length) : xa = xb := by
  rw [List.take_of_length_le (by omega), List.take_of_length_le (by omega)] at htk; exact htk
set_option maxRecDepth 100000 in
theorem C_law3_sameBoards (za zb : List BA) (A B : Option Addr) (n m c d : Nat) (w : World) (h : Rd w A 5 n (encX za)) (h' : Rd w B 5 m (encX zb)) (ha : ∀ x ∈ za, Rd w x.A 2 x.b.st.length (encP x.b.st)) (hb : ∀ x ∈ zb, Rd w x.A 2 x.b.st.length (encP x.b.st))
    (sa : ∀ x ∈ za, BrdSm x.b) (sb : ∀ x ∈ zb, BrdSm x.b) (hn : n ≤ 9223372036854775807) (hm : m ≤ 9223372036854775807) : C0 Try.prog 22 [.slice A n c, .slice B m d] w (.bool (decide (za.map (·.b) = zb.map (·.b)))) := by
  have hla : za.length = n := by have := h.len; rwa [encX_len] at this
  have hlb : zb.length = m := by have := h'.len; rwa [encX_len] at this
  refine ⟨en Try.func22 Try.ntmps22 (((St.init w).share (e := .ro A 5 n (encX za)) h rfl rfl rfl).share (e := .ro B 5 m (encX zb)) h' rfl rfl rfl) (h := fun F => ?_)⟩
  refine sq (h := ?_)
  refine rg (h := ?_)
  refine WL.y (hy := asg) (h := ?_)
  refine nl (h := ?_)
  refine q_seq (h := ?_)
  refine sq (h := ?_)
  refine sq (h := ?_)
  refine rg (h := ?_)
  refine WL.y (hy := mv) (h := ?_)
  refine WL.y (hy := lenS) (h := ?_)
  refine WL.y (hy := mv) (h := ?_)
  refine WL.y (hy := lenS) (h := ?_)
  refine WL.y (hy := neq) (h := ?_)
  refine nl (h := ?_)
  refine q_seq (h := ?_)
  refine cd (by exact rfl) (fun h0 => ?_) (fun h0 => ?_)
  · skip
    have hE : decide (za.map (·.b) = zb.map (·.b)) = false := decide_eq_false fun e => by
      have h1 := congrArg List.length e
      rw [List.length_map, List.length_map] at h1
      have h2 : (!decide ((n : Int) = m)) = true := h0
      simp only [Bool.not_eq_true', decide_eq_false_iff_not] at h2
      omega
    refine sq (h := ?_)
    refine rg (h := ?_)
    refine WL.y (hy := asg) (h := ?_)
    refine nl (h := ?_)
    refine q_seq (h := ?_)
    refine rtn (h := ?_)
    refine q_then_ret (h := ?_)
    refine q_ret (hR := ?_)
    rw [hE]
    exact fun w hS => ⟨rfl, hS.sub (by repeat (first | exact SubL.nil | (apply SubL.cons; (repeat (first | exact At.here | apply At.there))) | exact SubL.refl _ | apply SubL.skip))⟩
  · skip
    have hnm : n = m := by
      have h2 : (!decide ((n : Int) = m)) = false := h0
      simp only [Bool.not_eq_false', decide_eq_true_eq] at h2
      omega
    refine skp (h := ?_)
    refine q_seq (h := ?_)
    refine sq (h := ?_)
    refine sq (h := ?_)
    refine rg (h := ?_)
    refine WL.y (hy := asg) (h := ?_)
    refine WL.cut (by repeat (first | exact Cut.nil | apply Cut.hit | apply Cut.miss (by exact rfl))) ?_
    refine nl (h := ?_)
    refine q_seq (h := ?_)
    refine bk (h := ?_)
    refine lp (X := Nat) (I := fun k => k ≤ n ∧ (za.map (·.b)).take k = (zb.map (·.b)).take k) (le := fun k => [(0, .slice A n c), (1, .slice B m d), (5, .int .i64 k)]) (Le := fun _ => [.ro A 5 n (encX za), .ro B 5 m (encX zb)]) (μ := fun k => n - k) 0 ⟨Nat.zero_le _, rfl⟩ (by repeat (first | exact trivial | refine ⟨rfl, ?_⟩)) (by repeat (first | exact SubL.nil | (apply SubL.cons; (repeat (first | exact At.here | apply At.there))) | exact SubL.refl _ | apply SubL.skip)) (fun k hk0 => ?_)
    obtain ⟨hk, htk⟩ := hk0
    refine sq (h := ?_)
    refine sq (h := ?_)
    refine rg (h := ?_)
    refine WL.y (hy := mv) (h := ?_)
    refine WL.y (hy := mv) (h := ?_)
    refine WL.y (hy := lenS) (h := ?_)
    refine WL.y (hy := lss) (h := ?_)
    refine nl (h := ?_)
    refine q_seq (h := ?_)
    refine cd (by exact rfl) (fun h1 => ?_) (fun h1 => ?_)
    · skip
      have hkn : k < n := by have := of_decide_eq_true h1; omega
      obtain ⟨x, hx⟩ : ∃ x, za[k]? = some x := ⟨_, List.getElem?_eq_getElem (by omega)⟩
      obtain ⟨y, hy⟩ : ∃ x, zb[k]? = some x := ⟨_, List.getElem?_eq_getElem (by omega)⟩
      have hxm := List.mem_of_getElem? hx
      have hym := List.mem_of_getElem? hy
      have hsx := (sa x hxm).n
      have hsy := (sb y hym).n
      refine skp (h := ?_)
      refine q_seq (h := ?_)
      refine sq (h := ?_)
      refine bk (h := ?_)
      refine sq (h := ?_)
      refine rgD0 (by kernel_rfl) (h := ?_)
      refine tk 0 (hy := mv) (h := ?_)
      refine tk 1 (hy := mv) (h := ?_)
      refine tk 2 (hy := ix (A := A) (m := n) (hb := by omega)) (h := ?_)
      refine tk 3 (hy := ldEW (A := A) (k := k) (cs := x.cells) (hk := encX_at hx)) (h := ?_)
      refine tk 4 (hy := mv) (h := ?_)
      refine tk 5 (hy := mv) (h := ?_)
      refine tk 6 (hy := ix (A := B) (m := m) (hb := by omega)) (h := ?_)
      refine tk 7 (hy := ldEW (A := B) (k := k) (cs := y.cells) (hk := encX_at hy)) (h := ?_)
      refine one 8 (h := ?_)
      refine cl0 (hc := fun w hS => C_ref3_SameBoard x.b y.b x.A y.A x.b.st.length x.c y.b.st.length y.c w ((hS.old (ha x hxm)).get .ro) ((hS.old (hb y hym)).get .ro) (by omega) (by omega)) (h := ?_)
      refine nx (h := ?_)
      refine tk 9 (hy := notB) (h := ?_)
      refine dn (h := ?_)
      refine q_seq (h := ?_)
      refine cd (by exact rfl) (fun h2 => ?_) (fun h2 => ?_)
      · skip
        have hE : decide (za.map (·.b) = zb.map (·.b)) = false := decide_eq_false fun e => by
          have h1 : (za.map (·.b))[k]? = (zb.map (·.b))[k]? := by rw [e]
          rw [List.getElem?_map, List.getElem?_map, hx, hy] at h1
          have h2 : (!decide (x.b = y.b)) = true := h2
          have h3 : x.b = y.b := Option.some.inj h1
          rw [h3] at h2
          simp at h2
        refine sq (h := ?_)
        refine rg (h := ?_)
        refine WL.y (hy := asg) (h := ?_)
        refine nl (h := ?_)
        refine q_seq (h := ?_)
        refine rtn (h := ?_)
        refine q_blk_ret (h := ?_)
        refine q_then_ret (h := ?_)
        refine q_then_ret (h := ?_)
        refine q_blk_ret (h := ?_)
        refine q_then_ret (h := ?_)
        refine q_ret (hR := ?_)
        rw [hE]
        exact fun w hS => ⟨rfl, hS.sub (by repeat (first | exact SubL.nil | (apply SubL.cons; (repeat (first | exact At.here | apply At.there))) | exact SubL.refl _ | apply SubL.skip))⟩
      · skip
        have hxy : x.b = y.b := by have h2 : (!decide (x.b = y.b)) = false := h2; simpa using h2
        have hts : (za.map (·.b)).take (k + 1) = (zb.map (·.b)).take (k + 1) := by rw [List.take_add_one, List.take_add_one, htk, List.getElem?_map, List.getElem?_map, hx, hy, Option.map_some, Option.map_some, hxy]
        refine skp (h := ?_)
        refine q_blk_norm (h := ?_)
        refine q_seq (h := ?_)
        refine rg (h := ?_)
        refine WL.y (hy := mv) (h := ?_)
        refine WL.y (hy := addI) (h := ?_)
        refine WL.y (hy := asg) (h := ?_)
        refine WL.cut (by repeat (first | exact Cut.nil | apply Cut.hit | apply Cut.miss (by exact rfl))) ?_
        refine nl (h := ?_)
        refine rn (x := k) (k + 1) ⟨hkn, hts⟩ (by omega) (by repeat (first | exact trivial | refine ⟨rfl, ?_⟩)) (by repeat (first | exact SubL.nil | (apply SubL.cons; (repeat (first | exact At.here | apply At.there))) | exact SubL.refl _ | apply SubL.skip))
    · skip
      have hkn : k = n := by have := of_decide_eq_false h1; omega
      have hE : decide (za.map (·.b) = zb.map (·.b)) = true := decide_eq_true (same_brds htk (by rw [List.length_map, List.length_map]; omega) (by rw [List.length_map]; omega))
      refine et (h := ?_)
      refine q_then_exit (h := ?_)
      refine q_then_exit (h := ?_)
      refine q_blk_hit (h := ?_)
      refine q_seq (h := ?_)
      refine sq (h := ?_)
      refine rg (h := ?_)
      refine WL.y (hy := asg) (h := ?_)
      refine nl (h := ?_)
      refine q_seq (h := ?_)
      refine rtn (h := ?_)
      refine q_ret (hR := ?_)
      rw [hE]
      exact fun w hS => ⟨rfl, hS.sub (by repeat (first | exact SubL.nil | (apply SubL.cons; (repeat (first | exact At.here | apply At.there))) | exact SubL.refl _ | apply SubL.skip))⟩
theorem Rdy.sureE {f : Fmt} {cf : Int} {xs : List Nt} (h : Rdy f cf xs) {x : Nt} (hx : mkV x = true) (h3 : 3 ≤ x.kind) : sureE f cf xs x = posE f cf xs ∧ sureV f cf xs x = (decide (posE f cf xs = 0) && sureB f cf xs x) := by
  have e : Go.Proofs.Ytncoimjgjpcipaa.sureE f cf xs x = posE f cf xs := by
    unfold Go.Proofs.Ytncoimjgjpcipaa.sureE
    rw [decide_eq_true h.c, cond_true, decide_eq_false (show ¬ x.kind < 3 by omega), hx]; rfl
  exact ⟨e, by unfold sureV; rw [e]⟩
theorem sure_tst {f : Fmt} {cf first : Int} {xs : List Nt} {ps : List Int} {m : MS} {x : Nt} (h : TrM f cf first xs ps m) (hfs : first = 0 ∨ first = 1) (hs : sureB f cf xs x = true) (hk : 3 ≤ x.kind ∧ x.kind ≤ 7) : tstV m.sc x = true := by
  rw [tst_hold h.f h.r (by rw [h.fs]; omega) hk]
  exact List.all_eq_true.1 hs _ h.k
theorem TrM.st {f : Fmt} {cf first : Int} {xs : List Nt} {ps : List Int} {m : MS} (h : TrM f cf first xs ps m) (hM : MOk f cf first xs ps) (hf : f.Ok) : m.st.length ≤ 1000000 := by
  obtain ⟨m9, hm9⟩ := hM.pl
  have e9 : some m = some m9 := by
    have g9 := h.o
    unfold playO at g9
    rw [← hm9]
    cases hq : !decide (preE f first ps.length = 0)
    · rw [hq] at g9; exact g9.symm
    · rw [hq] at g9; cases g9
  cases e9
  have := (playTo_bd hf hM.fs (by have := hM.n; omega) hm9).s
  have := hM.n
  omega
theorem sure_more {f : Fmt} {cf : Int} {xs : List Nt} {x : Nt} (h3 : 3 ≤ x.kind) (hs : sureB f cf xs x = true) (s : Spot) : s ∈ keyC (crowdC f cf (xs ++ [x])) ↔ s ∈ keyC (crowdC f cf xs) := by
  unfold crowdC
  rw [List.foldl_append]
  show s ∈ keyC (afterC f _ x) ↔ _
  rw [after_mem]
  constructor
  · rintro ⟨t, ht, hr⟩
    unfold Rel at hr
    rw [if_neg (by omega), if_neg (by omega)] at hr
    exact hr.1 ▸ ht
  · intro hm
    refine ⟨s, hm, ?_⟩
    unfold Rel
    rw [if_neg (by omega), if_neg (by omega)]
    exact ⟨rfl, List.all_eq_true.1 hs s hm⟩
theorem Rdy.more {f : Fmt} {cf : Int} {xs : List Nt} (h : Rdy f cf xs) {x : Nt} (hx : mkV x = true) (h3 : 3 ≤ x.kind) : chkC f cf (xs ++ [x]) = 0 ∧ mostS (xs ++ [x]) ≤ 20 ∧ (crowdC f cf (xs ++ [x])).length ≤ 4194304 := by
  obtain ⟨c1, c2, c3, c4, c5, c6⟩ := chk_facts h.c
  have hmk : ∀ y ∈ xs ++ [x], mkV y = true := fun y hy => by
    rcases List.mem_append.1 hy with hy | hy
    · exact h.mks y hy
    · rw [List.mem_singleton.1 hy]; exact hx
  have e1 : misS (xs ++ [x]) = misS xs := by
    unfold misS
    rw [List.map_append, List.sum_append]
    show _ + (misN x + 0) = _
    unfold misN
    rw [decide_eq_false (show ¬ x.kind = 2 by omega)]
    show _ + ((0 : Int) + 0) = _
    omega
  have e2 : mostS (xs ++ [x]) = mostS xs := by
    unfold mostS
    rw [List.map_append, List.sum_append]
    show _ + (mostN x + 0) = _
    unfold mostN
    rw [if_neg (by omega), if_neg (by omega)]
    omega
  have hl : (xs ++ [x]).length = xs.length + 1 := by rw [List.length_append]; rfl
  have h1 := h.n
  have h2 := h.m
  have h4 := h.mis
  obtain ⟨g1, g2, g3⟩ := exp_mis hmk
  have g4 := crowd_len f cf (xs ++ [x])
  have he : expS (xs ++ [x]) ≤ 21 := by omega
  have hp : 2 ^ expS (xs ++ [x]) ≤ 2 ^ 21 := Nat.pow_le_pow_right (by omega) he
  exact ⟨chk_of c1 c3 (by omega) hmk (by omega), by omega, by omega⟩
theorem sure_brds {f : Fmt} {cf : Int} {xs : List Nt} {x : Nt} {qa qb : BDR} (h3 : 3 ≤ x.kind) (hs : sureB f cf xs x = true) (ha : BtOk f cf xs qa) (hb : BtOk f cf (xs ++ [x]) qb) (h0 : posE f cf xs = 0) (hx0 : posE f cf (xs ++ [x]) = 0) : qa.zs.map (·.b) = qb.zs.map (·.b) := by
  rw [ha.yes h0, hb.yes hx0]
  exact boards_same fun s => (sure_more h3 hs s).symm
theorem sure_pos {f : Fmt} {cf : Int} {xs : List Nt} {x : Nt} (h : Rdy f cf xs) (hx : mkV x = true) (h3 : 3 ≤ x.kind) (hs : sureB f cf xs x = true) (h0 : posE f cf xs = 0) : posE f cf (xs ++ [x]) = 0 := by
  have h1 : badC f cf xs = -1 := by
    rw [h.pos] at h0
    by_cases e : badC f cf xs = -1
    · exact e
    · rw [if_neg e] at h0; cases h0
  obtain ⟨s, hm⟩ := h.bad_key.1 h1
  have h2 : badC f cf (xs ++ [x]) = -1 := (bad_none h.cf).2 fun e => by
    have := (sure_more h3 hs s).2 hm
    rw [e] at this; cases this
  rw [posE, (h.more hx h3).1, h2]; rfl
end Go.Proofs.Ytncoimjgjpcipaa

namespace Go.Proofs.Ytncoimjgjpcipaa
open Go Go.RowKit

set_option maxRecDepth 100000 in
theorem K_CardCertain (f : Fmt) (cf : Int) (xs : List Nt) (A : Option Addr) (n c : Nat) (x : Nt) (first : Int) (ps : List Int) (P : Option Addr) (np cp : Nat) (w : World) (h : Rd w A 4 n (encN xs)) (h' : Rd w P 1 np (encI ps)) (hn : n ≤ 9223372036854775807) (hnp : np ≤ 9223372036854775807) : C0 Try.prog 5 [.agg (cardC f cf A n c).toArray, x.val, .agg #[.int .i64 first, .slice P np cp]] w (.bool true) := by
  have hlen : xs.length = n := by have := h.len; rwa [encN_len] at this
  have hlp : ps.length = np := by have := h'.len; rwa [encI_len] at this
  refine ⟨en Try.func5 Try.ntmps5 (((St.init w).share (e := .ro A 4 n (encN xs)) h rfl rfl rfl).share (e := .ro P 1 np (encI ps)) h' rfl rfl rfl) (h := fun F => ?_)⟩
  refine sq (h := ?_)
  refine rg (h := ?_)
  refine bxA (h := fun b0 => ?_)
  refine bxA (h := fun b1 => ?_)
  refine bxA (h := fun b2 => ?_)
  refine WL.y (hy := asg) (h := ?_)
  refine nl (h := ?_)
  refine q_seq (h := ?_)
  refine sq (h := ?_)
  refine sq (h := ?_)
  refine rg (h := ?_)
  refine WL.y (hy := (by first | exact ldA | exact ldEA)) (h := ?_)
  refine cl0 (hc := fun w hS => C_law3_ready f cf xs A n c w (hS.get (by repeat (first | exact Rds.ro | exact Rds.own | apply Rds.there))) hn) (h := ?_)
  refine WL.y (hy := notB) (h := ?_)
  refine WL.y (hy := mv) (h := ?_)
  apply brOr 5 24 29 (by exact rfl)
  · intro hb0
    refine un (h := ?_)
    refine WL.y (hy := (by first | exact fa | exact faE)) (h := ?_)
    refine un (h := ?_)
    refine WL.y (hy := (by first | exact ld | exact ldE)) (h := ?_)
    refine un (h := ?_)
    refine WL.y (hy := lenS) (h := ?_)
    refine un (h := ?_)
    refine WL.y (hy := geq) (h := ?_)
    refine WL.y (hy := (by first | exact pkT | exact pkF)) (h := ?_)
    exact mg (by repeat (first | exact trivial | refine ⟨rfl, ?_⟩ | refine ⟨by rw [hb0]; rfl, ?_⟩)) (by repeat (first | exact SubL.nil | (apply SubL.cons; (repeat (first | exact At.here | apply At.there))) | exact SubL.refl _ | apply SubL.skip))
  · intro hb0
    repeat (first | refine un (h := ?_) | refine sk (h := ?_) | refine WL.y (hy := pkF) (h := ?_) | refine WL.y (hy := pkT) (h := ?_))
    exact mg (by repeat (first | exact trivial | refine ⟨rfl, ?_⟩ | refine ⟨by rw [hb0]; rfl, ?_⟩)) (by repeat (first | exact SubL.nil | (apply SubL.cons; (repeat (first | exact At.here | apply At.there))) | exact SubL.refl _ | apply SubL.skip))
  refine WL.y (hy := mv) (h := ?_)
  apply brOr 4 30 34 (by exact rfl)
  · intro hb1
    refine un (h := ?_)
    refine WL.y (hy := (by first | exact ldA | exact ldEA)) (h := ?_)
    refine un (h := ?_)
    refine cl0 (hc := fun w hS => C_ref3_IsMark _ w) (h := ?_)
    refine un (h := ?_)
    refine WL.y (hy := notB) (h := ?_)
    refine WL.y (hy := (by first | exact pkT | exact pkF)) (h := ?_)
    exact mg (by repeat (first | exact trivial | refine ⟨rfl, ?_⟩ | refine ⟨by rw [hb1]; rfl, ?_⟩)) (by repeat (first | exact SubL.nil | (apply SubL.cons; (repeat (first | exact At.here | apply At.there))) | exact SubL.refl _ | apply SubL.skip))
  · intro hb1
    repeat (first | refine un (h := ?_) | refine sk (h := ?_) | refine WL.y (hy := pkF) (h := ?_) | refine WL.y (hy := pkT) (h := ?_))
    exact mg (by repeat (first | exact trivial | refine ⟨rfl, ?_⟩ | refine ⟨by rw [hb1]; rfl, ?_⟩)) (by repeat (first | exact SubL.nil | (apply SubL.cons; (repeat (first | exact At.here | apply At.there))) | exact SubL.refl _ | apply SubL.skip))
  refine WL.y (hy := mv) (h := ?_)
  apply brOr 4 35 39 (by exact rfl)
  · intro hb2
    refine un (h := ?_)
    refine WL.y (hy := (by first | exact fa | exact faE)) (h := ?_)
    refine un (h := ?_)
    refine WL.y (hy := (by first | exact ld | exact ldE)) (h := ?_)
    refine un (h := ?_)
    refine WL.y (hy := lss) (h := ?_)
    refine WL.y (hy := (by first | exact pkT | exact pkF)) (h := ?_)
    exact mg (by repeat (first | exact trivial | refine ⟨rfl, ?_⟩ | refine ⟨by rw [hb2]; rfl, ?_⟩)) (by repeat (first | exact SubL.nil | (apply SubL.cons; (repeat (first | exact At.here | apply At.there))) | exact SubL.refl _ | apply SubL.skip))
  · intro hb2
    repeat (first | refine un (h := ?_) | refine sk (h := ?_) | refine WL.y (hy := pkF) (h := ?_) | refine WL.y (hy := pkT) (h := ?_))
    exact mg (by repeat (first | exact trivial | refine ⟨rfl, ?_⟩ | refine ⟨by rw [hb2]; rfl, ?_⟩)) (by repeat (first | exact SubL.nil | (apply SubL.cons; (repeat (first | exact At.here | apply At.there))) | exact SubL.refl _ | apply SubL.skip))
  refine nl (h := ?_)
  refine q_seq (h := ?_)
  refine cd (by exact rfl) (fun h3 => ?_) (fun h3 => ?_)
  · skip
    refine sq (h := ?_)
    refine rg (h := ?_)
    refine cl0 (hc := fun w hS => C_law3_works w) (h := ?_)
    refine WL.y (hy := asg) (h := ?_)
    refine nl (h := ?_)
    refine q_seq (h := ?_)
    refine rtn (h := ?_)
    refine q_then_ret (h := ?_)
    refine q_ret (hR := ?_)
    exact fun w hS => ⟨rfl, hS.sub (by repeat (first | exact SubL.nil | (apply SubL.cons; (repeat (first | exact At.here | apply At.there))) | exact SubL.refl _ | apply SubL.skip))⟩
  · skip
    have h0 := h3
    simp only [Bool.or_eq_false_iff, Bool.not_eq_false', decide_eq_false_iff_not] at h0
    obtain ⟨⟨⟨h0, h01⟩, hmx⟩, h03⟩ := h0
    have hR := rdy_facts h0
    have hn12 := hR.n
    have hk3 : 3 ≤ x.kind := by omega
    have hk7 := (mk_kind hmx).1
    have hsE := hR.sureE hmx hk3
    have hmo := hR.more hmx hk3
    have hpp : posE f cf xs = 0 ∨ posE f cf xs = 3 := by
      rw [hR.pos]
      by_cases e : badC f cf xs = -1
      · rw [if_pos e]; exact .inl rfl
      · rw [if_neg e]; exact .inr rfl
    refine skp (h := ?_)
    refine q_seq (h := ?_)
    refine sq (h := ?_)
    refine rg (h := ?_)
    refine WL.y (hy := (by first | exact ldA | exact ldEA)) (h := ?_)
    refine WL.y (hy := (by first | exact ldA | exact ldEA)) (h := ?_)
    refine cl0 (hc := fun w hS => C_card_Sure f cf xs x A n c w (hS.get (by repeat (first | exact Rds.ro | exact Rds.own | apply Rds.there))) hn (fun _ => by have := hR.m; omega)) (h := ?_)
    rw [hsE.1, hsE.2]
    refine WL.y (hy := mv) (h := ?_)
    refine WL.y (hy := ex) (h := ?_)
    refine WL.y (hy := ex) (h := ?_)
    refine WL.y (hy := asg) (h := ?_)
    refine WL.y (hy := asg) (h := ?_)
    refine nl (h := ?_)
    refine q_seq (h := ?_)
    refine sq (h := ?_)
    refine rg (h := ?_)
    refine WL.y (hy := (by first | exact ldA | exact ldEA)) (h := ?_)
    refine cl (hc := fun w hS => C_card_ShowT f cf xs A n c w (hS.get (by repeat (first | exact Rds.ro | exact Rds.own | apply Rds.there))) hn (fun _ => by have := hR.m; omega)) (h := fun s hs => ?_)
    refine WL.y (hy := mv) (h := ?_)
    refine WL.y (hy := ex) (h := ?_)
    refine WL.y (hy := ex) (h := ?_)
    refine WL.y (hy := ex) (h := ?_)
    refine WL.y (hy := asg) (h := ?_)
    refine WL.y (hy := asg) (h := ?_)
    refine WL.y (hy := asg) (h := ?_)
    refine nl (h := ?_)
    refine q_seq (h := ?_)
    refine sq (h := ?_)
    refine sq (h := ?_)
    refine rg (h := ?_)
    refine WL.y (hy := mv) (h := ?_)
    refine WL.y (hy := mv) (h := ?_)
    refine WL.y (hy := neq) (h := ?_)
    refine WL.y (hy := mv) (h := ?_)
    apply brOr 7 56 63 (by exact rfl)
    · intro hb4
      refine un (h := ?_)
      refine WL.y (hy := mv) (h := ?_)
      refine un (h := ?_)
      refine WL.y (hy := neq) (h := ?_)
      refine un (h := ?_)
      refine WL.y (hy := mv) (h := ?_)
      apply brAnd 3 59 62 (by exact rfl)
      · intro hb5
        refine un (h := ?_)
        refine WL.y (hy := mv) (h := ?_)
        refine un (h := ?_)
        refine WL.y (hy := neq) (h := ?_)
        refine un (h := ?_)
        refine WL.y (hy := (by first | exact pkT | exact pkF)) (h := ?_)
        exact mg (by repeat (first | exact trivial | refine ⟨rfl, ?_⟩ | refine ⟨by rw [hb5]; rfl, ?_⟩ | refine ⟨by rw [hb4]; rfl, ?_⟩)) (by repeat (first | exact SubL.nil | (apply SubL.cons; (repeat (first | exact At.here | apply At.there))) | exact SubL.refl _ | apply SubL.skip))
      · intro hb5
        repeat (first | refine un (h := ?_) | refine sk (h := ?_) | refine WL.y (hy := pkF) (h := ?_) | refine WL.y (hy := pkT) (h := ?_))
        exact mg (by repeat (first | exact trivial | refine ⟨rfl, ?_⟩ | refine ⟨by rw [hb5]; rfl, ?_⟩ | refine ⟨by rw [hb4]; rfl, ?_⟩)) (by repeat (first | exact SubL.nil | (apply SubL.cons; (repeat (first | exact At.here | apply At.there))) | exact SubL.refl _ | apply SubL.skip))
      refine WL.y (hy := (by first | exact pkT | exact pkF)) (h := ?_)
      exact mg (by repeat (first | exact trivial | refine ⟨rfl, ?_⟩ | refine ⟨by rw [hb4]; rfl, ?_⟩)) (by repeat (first | exact SubL.nil | (apply SubL.cons; (repeat (first | exact At.here | apply At.there))) | exact SubL.refl _ | apply SubL.skip))
    · intro hb4
      repeat (first | refine un (h := ?_) | refine sk (h := ?_) | refine WL.y (hy := pkF) (h := ?_) | refine WL.y (hy := pkT) (h := ?_))
      exact mg (by repeat (first | exact trivial | refine ⟨rfl, ?_⟩ | refine ⟨by rw [hb4]; rfl, ?_⟩)) (by repeat (first | exact SubL.nil | (apply SubL.cons; (repeat (first | exact At.here | apply At.there))) | exact SubL.refl _ | apply SubL.skip))
    refine nl (h := ?_)
    refine q_seq (h := ?_)
    refine cd (by exact rfl) (fun h6 => ?_) (fun h6 => ?_)
    · skip
      have h0 := h6
      rcases hpp with e | e <;> rw [e] at h0 <;> cases h0
    · skip
      refine skp (h := ?_)
      refine q_seq (h := ?_)
      refine sq (h := ?_)
      refine sq (h := ?_)
      refine rg (h := ?_)
      refine WL.y (hy := mv) (h := ?_)
      refine WL.y (hy := neq) (h := ?_)
      refine nl (h := ?_)
      refine q_seq (h := ?_)
      refine cd (by exact rfl) (fun h7 => ?_) (fun h7 => ?_)
      · skip
        refine sq (h := ?_)
        refine rg (h := ?_)
        refine cl0 (hc := fun w hS => C_law3_works w) (h := ?_)
        refine WL.y (hy := asg) (h := ?_)
        refine nl (h := ?_)
        refine q_seq (h := ?_)
        refine rtn (h := ?_)
        refine q_then_ret (h := ?_)
        refine q_ret (hR := ?_)
        exact fun w hS => ⟨rfl, hS.sub (by repeat (first | exact SubL.nil | (apply SubL.cons; (repeat (first | exact At.here | apply At.there))) | exact SubL.refl _ | apply SubL.skip))⟩
      · skip
        have hp0 : posE f cf xs = 0 := by simpa using h7
        obtain ⟨su, hsu, hsr⟩ := hs.yes hp0
        have hM := row_ok hR.ok hsr hs.len
        obtain ⟨m, hT⟩ := hM.play hR
        have hTl := hT.st hM hR.ok
        have hss := fun g => sure_tst hT hM.fs g ⟨hk3, hk7.2⟩
        refine skp (h := ?_)
        refine q_seq (h := ?_)
        refine sq (h := ?_)
        refine rg (h := ?_)
        refine WL.y (hy := (by first | exact fa | exact faE)) (h := ?_)
        refine WL.y (hy := (by first | exact ldA | exact ldEA)) (h := ?_)
        refine WL.y (hy := mv) (h := ?_)
        refine WL.y (hy := mv) (h := ?_)
        refine cl (hc := fun w hS => C_score_Play f s.first s.r s.A s.r.length s.c w (hS.get (by repeat (first | exact Rds.ro | exact Rds.own | apply Rds.there))) (by have := hs.len; omega)) (h := fun u _ => ?_)
        rw [playE_some hT.o, hT.o]
        refine WL.y (hy := mv) (h := ?_)
        refine WL.y (hy := ex) (h := ?_)
        refine WL.y (hy := ex) (h := ?_)
        refine al (h := fun b3 => ?_)
        first | refine stA (h := ?_) | refine stEA (h := ?_)
        refine WL.y (hy := asg) (h := ?_)
        refine nl (h := ?_)
        refine q_seq (h := ?_)
        refine sq (h := ?_)
        refine sq (h := ?_)
        refine rg (h := ?_)
        refine WL.y (hy := mv) (h := ?_)
        refine WL.y (hy := neq) (h := ?_)
        refine WL.y (hy := mv) (h := ?_)
        apply brOr 8 77 85 (by exact rfl)
        · intro hb8
          refine un (h := ?_)
          refine WL.y (hy := mv) (h := ?_)
          refine un (h := ?_)
          refine WL.y (hy := mv) (h := ?_)
          apply brAnd 5 79 84 (by exact rfl)
          · intro hb9
            refine un (h := ?_)
            refine WL.y (hy := (by first | exact ldA | exact ldEA)) (h := ?_)
            refine un (h := ?_)
            refine WL.y (hy := (by first | exact ldA | exact ldEA)) (h := ?_)
            refine un (h := ?_)
            refine cl0 (hc := fun w hS => C_ref3_True m.sc u.1 u.2 x w (hS.get (by repeat (first | exact Rds.ro | exact Rds.own | apply Rds.there))) hTl) (h := ?_)
            refine un (h := ?_)
            refine WL.y (hy := notB) (h := ?_)
            refine un (h := ?_)
            refine WL.y (hy := (by first | exact pkT | exact pkF)) (h := ?_)
            exact mg (by repeat (first | exact trivial | refine ⟨rfl, ?_⟩ | refine ⟨by rw [hb9]; rfl, ?_⟩ | refine ⟨by rw [hb8]; rfl, ?_⟩)) (by repeat (first | exact SubL.nil | (apply SubL.cons; (repeat (first | exact At.here | apply At.there))) | exact SubL.refl _ | apply SubL.skip))
          · intro hb9
            repeat (first | refine un (h := ?_) | refine sk (h := ?_) | refine WL.y (hy := pkF) (h := ?_) | refine WL.y (hy := pkT) (h := ?_))
            exact mg (by repeat (first | exact trivial | refine ⟨rfl, ?_⟩ | refine ⟨by rw [hb9]; rfl, ?_⟩ | refine ⟨by rw [hb8]; rfl, ?_⟩)) (by repeat (first | exact SubL.nil | (apply SubL.cons; (repeat (first | exact At.here | apply At.there))) | exact SubL.refl _ | apply SubL.skip))
          refine WL.y (hy := (by first | exact pkT | exact pkF)) (h := ?_)
          exact mg (by repeat (first | exact trivial | refine ⟨rfl, ?_⟩ | refine ⟨by rw [hb8]; rfl, ?_⟩)) (by repeat (first | exact SubL.nil | (apply SubL.cons; (repeat (first | exact At.here | apply At.there))) | exact SubL.refl _ | apply SubL.skip))
        · intro hb8
          repeat (first | refine un (h := ?_) | refine sk (h := ?_) | refine WL.y (hy := pkF) (h := ?_) | refine WL.y (hy := pkT) (h := ?_))
          exact mg (by repeat (first | exact trivial | refine ⟨rfl, ?_⟩ | refine ⟨by rw [hb8]; rfl, ?_⟩)) (by repeat (first | exact SubL.nil | (apply SubL.cons; (repeat (first | exact At.here | apply At.there))) | exact SubL.refl _ | apply SubL.skip))
        refine nl (h := ?_)
        refine q_seq (h := ?_)
        refine cd (by exact rfl) (fun h10 => ?_) (fun h10 => ?_)
        · skip
          have h0 := h10
          simp only [hp0, Bool.or_eq_true, Bool.and_eq_true, Bool.not_eq_true', decide_true, Bool.true_and, decide_eq_false_iff_not, not_true_eq_false, false_or] at h0
          rcases h0 with h0 | h0
          · cases h0
          · have h1 := hss h0.1
            rw [h1] at h0
            cases h0.2
        · skip
          refine skp (h := ?_)
          refine q_seq (h := ?_)
          refine ct (X := Unit) (fun _ => True) (fun _ => [(3, .pointer (some ⟨b0, 0, none⟩)), (4, .pointer (some ⟨b1, 0, none⟩)), (7, .bool (decide (posE f cf xs = 0) && sureB f cf xs x))]) (fun _ => [.blk b0 26 (cardC f cf A n c), .blk b1 40 x.cells, .ro A 4 n (encN xs)]) (h1 := ?_) (h2 := ?_)
          · skip
            refine sq (h := ?_)
            refine rg (h := ?_)
            refine WL.y (hy := (by first | exact fa | exact faE)) (h := ?_)
            refine WL.y (hy := (by first | exact ld | exact ldE)) (h := ?_)
            refine WL.y (hy := lenS) (h := ?_)
            refine WL.y (hy := leq) (h := ?_)
            refine WL.y (hy := mv) (h := ?_)
            apply brAnd 7 90 97 (by exact rfl)
            · intro hb11
              refine un (h := ?_)
              refine WL.y (hy := (by first | exact ldA | exact ldEA)) (h := ?_)
              refine un (h := ?_)
              refine WL.y (hy := (by first | exact fa | exact faE)) (h := ?_)
              refine un (h := ?_)
              refine WL.y (hy := (by first | exact ld | exact ldE)) (h := ?_)
              refine un (h := ?_)
              refine WL.y (hy := (by first | exact fa | exact faE)) (h := ?_)
              refine un (h := ?_)
              refine WL.y (hy := (by first | exact ld | exact ldE)) (h := ?_)
              refine un (h := ?_)
              refine cl0 (hc := fun w hS => C_ref3_IsMatchB f cf xs A n c first ps P np cp w (hS.get (by repeat (first | exact Rds.ro | exact Rds.own | apply Rds.there))) (hS.get (by repeat (first | exact Rds.ro | exact Rds.own | apply Rds.there))) hnp (by omega) hR.c) (h := ?_)
              refine WL.y (hy := (by first | exact pkT | exact pkF)) (h := ?_)
              exact mg (by repeat (first | exact trivial | refine ⟨rfl, ?_⟩ | refine ⟨by rw [hb11]; rfl, ?_⟩)) (by repeat (first | exact SubL.nil | (apply SubL.cons; (repeat (first | exact At.here | apply At.there))) | exact SubL.refl _ | apply SubL.skip))
            · intro hb11
              repeat (first | refine un (h := ?_) | refine sk (h := ?_) | refine WL.y (hy := pkF) (h := ?_) | refine WL.y (hy := pkT) (h := ?_))
              exact mg (by repeat (first | exact trivial | refine ⟨rfl, ?_⟩ | refine ⟨by rw [hb11]; rfl, ?_⟩)) (by repeat (first | exact SubL.nil | (apply SubL.cons; (repeat (first | exact At.here | apply At.there))) | exact SubL.refl _ | apply SubL.skip))
            refine nl (h := ?_)
            refine q_seq (h := ?_)
            refine cd (by exact rfl) (fun h12 => ?_) (fun h12 => ?_)
            · skip
              have h0 := h12
              rw [Bool.and_eq_true] at h0
              have hM2 := mokB_iff.1 h0.2
              obtain ⟨m2, hT2⟩ := hM2.play hR
              have hTl2 := hT2.st hM2 hR.ok
              have hss2 := fun g => sure_tst hT2 hM2.fs g ⟨hk3, hk7.2⟩
              refine sq (h := ?_)
              refine rg (h := ?_)
              refine WL.y (hy := (by first | exact fa | exact faE)) (h := ?_)
              refine WL.y (hy := (by first | exact ldA | exact ldEA)) (h := ?_)
              refine WL.y (hy := (by first | exact fa | exact faE)) (h := ?_)
              refine WL.y (hy := (by first | exact ld | exact ldE)) (h := ?_)
              refine WL.y (hy := (by first | exact fa | exact faE)) (h := ?_)
              refine WL.y (hy := (by first | exact ld | exact ldE)) (h := ?_)
              refine cl (hc := fun w hS => C_score_Play f first ps P np cp w (hS.get (by repeat (first | exact Rds.ro | exact Rds.own | apply Rds.there))) hnp) (h := fun u2 _ => ?_)
              rw [playE_some hT2.o, hT2.o]
              refine WL.y (hy := mv) (h := ?_)
              refine WL.y (hy := ex) (h := ?_)
              refine WL.y (hy := ex) (h := ?_)
              refine al (h := fun b4 => ?_)
              first | refine stA (h := ?_) | refine stEA (h := ?_)
              refine WL.y (hy := asg) (h := ?_)
              refine nl (h := ?_)
              refine q_seq (h := ?_)
              refine sq (h := ?_)
              refine rg (h := ?_)
              refine WL.y (hy := mv) (h := ?_)
              refine WL.y (hy := neq) (h := ?_)
              refine WL.y (hy := mv) (h := ?_)
              apply brOr 8 110 118 (by exact rfl)
              · intro hb13
                refine un (h := ?_)
                refine WL.y (hy := mv) (h := ?_)
                refine un (h := ?_)
                refine WL.y (hy := mv) (h := ?_)
                apply brAnd 5 112 117 (by exact rfl)
                · intro hb14
                  refine un (h := ?_)
                  refine WL.y (hy := (by first | exact ldA | exact ldEA)) (h := ?_)
                  refine un (h := ?_)
                  refine WL.y (hy := (by first | exact ldA | exact ldEA)) (h := ?_)
                  refine un (h := ?_)
                  refine cl0 (hc := fun w hS => C_ref3_True m2.sc u2.1 u2.2 x w (hS.get (by repeat (first | exact Rds.ro | exact Rds.own | apply Rds.there))) hTl2) (h := ?_)
                  refine un (h := ?_)
                  refine WL.y (hy := notB) (h := ?_)
                  refine un (h := ?_)
                  refine WL.y (hy := (by first | exact pkT | exact pkF)) (h := ?_)
                  exact mg (by repeat (first | exact trivial | refine ⟨rfl, ?_⟩ | refine ⟨by rw [hb14]; rfl, ?_⟩ | refine ⟨by rw [hb13]; rfl, ?_⟩)) (by repeat (first | exact SubL.nil | (apply SubL.cons; (repeat (first | exact At.here | apply At.there))) | exact SubL.refl _ | apply SubL.skip))
                · intro hb14
                  repeat (first | refine un (h := ?_) | refine sk (h := ?_) | refine WL.y (hy := pkF) (h := ?_) | refine WL.y (hy := pkT) (h := ?_))
                  exact mg (by repeat (first | exact trivial | refine ⟨rfl, ?_⟩ | refine ⟨by rw [hb14]; rfl, ?_⟩ | refine ⟨by rw [hb13]; rfl, ?_⟩)) (by repeat (first | exact SubL.nil | (apply SubL.cons; (repeat (first | exact At.here | apply At.there))) | exact SubL.refl _ | apply SubL.skip))
                refine WL.y (hy := (by first | exact pkT | exact pkF)) (h := ?_)
                exact mg (by repeat (first | exact trivial | refine ⟨rfl, ?_⟩ | refine ⟨by rw [hb13]; rfl, ?_⟩)) (by repeat (first | exact SubL.nil | (apply SubL.cons; (repeat (first | exact At.here | apply At.there))) | exact SubL.refl _ | apply SubL.skip))
              · intro hb13
                repeat (first | refine un (h := ?_) | refine sk (h := ?_) | refine WL.y (hy := pkF) (h := ?_) | refine WL.y (hy := pkT) (h := ?_))
                exact mg (by repeat (first | exact trivial | refine ⟨rfl, ?_⟩ | refine ⟨by rw [hb13]; rfl, ?_⟩)) (by repeat (first | exact SubL.nil | (apply SubL.cons; (repeat (first | exact At.here | apply At.there))) | exact SubL.refl _ | apply SubL.skip))
              refine nl (h := ?_)
              refine q_seq (h := ?_)
              refine cd (by exact rfl) (fun h15 => ?_) (fun h15 => ?_)
              · skip
                have h0 := h15
                simp only [hp0, Bool.or_eq_true, Bool.and_eq_true, Bool.not_eq_true', decide_true, Bool.true_and, decide_eq_false_iff_not, not_true_eq_false, false_or] at h0
                rcases h0 with h0 | h0
                · cases h0
                · have h1 := hss2 h0.1
                  rw [h1] at h0
                  cases h0.2
              · skip
                refine skp (h := ?_)
                exact ctn () trivial (by repeat (first | exact trivial | refine ⟨rfl, ?_⟩)) (by repeat (first | exact SubL.nil | (apply SubL.cons; (repeat (first | exact At.here | apply At.there))) | exact SubL.refl _ | apply SubL.skip))
            · skip
              refine skp (h := ?_)
              exact ctn () trivial (by repeat (first | exact trivial | refine ⟨rfl, ?_⟩)) (by repeat (first | exact SubL.nil | (apply SubL.cons; (repeat (first | exact At.here | apply At.there))) | exact SubL.refl _ | apply SubL.skip))
          rintro ⟨⟩ -
          refine sq (h := ?_)
          refine sq (h := ?_)
          refine rg (h := ?_)
          refine WL.y (hy := mv) (h := ?_)
          refine WL.y (hy := notB) (h := ?_)
          refine nl (h := ?_)
          refine q_seq (h := ?_)
          refine cd (by exact rfl) (fun h16 => ?_) (fun h16 => ?_)
          · skip
            refine sq (h := ?_)
            refine rg (h := ?_)
            refine cl0 (hc := fun w hS => C_law3_works w) (h := ?_)
            refine WL.y (hy := asg) (h := ?_)
            refine nl (h := ?_)
            refine q_seq (h := ?_)
            refine rtn (h := ?_)
            refine q_then_ret (h := ?_)
            refine q_ret (hR := ?_)
            exact fun w hS => ⟨rfl, hS.sub (by repeat (first | exact SubL.nil | (apply SubL.cons; (repeat (first | exact At.here | apply At.there))) | exact SubL.refl _ | apply SubL.skip))⟩
          · skip
            have hsB : sureB f cf xs x = true := by
              have h0 := h16
              rw [hp0] at h0
              simpa using h0
            have hpx := sure_pos hR hmx hk3 hsB hp0
            refine skp (h := ?_)
            refine q_seq (h := ?_)
            refine sq (h := ?_)
            refine rg (h := ?_)
            refine WL.y (hy := (by first | exact ldA | exact ldEA)) (h := ?_)
            refine cl (hc := fun w hS => C_ref3_Copy f cf xs A n c w (hS.get (by repeat (first | exact Rds.ro | exact Rds.own | apply Rds.there))) (by omega)) (h := fun q _ => ?_)
            refine al (h := fun b5 => ?_)
            first | refine stA (h := ?_) | refine stEA (h := ?_)
            refine nl (h := ?_)
            refine q_seq (h := ?_)
            refine sq (h := ?_)
            refine rg (h := ?_)
            refine WL.y (hy := (by first | exact fa | exact faE)) (h := ?_)
            refine WL.y (hy := (by first | exact ld | exact ldE)) (h := ?_)
            refine WL.y (hy := (by first | exact ldA | exact ldEA)) (h := ?_)
            refine bs (h := fun b6 => ?_)
            refine ap (es := encN xs) (m := n) (k := 1) (A := q.1) (c := q.2) (h := fun A1 c1 => ?_)
            rw [show encN xs ++ [x.cells] = encN (xs ++ [x]) by unfold encN; rw [List.map_append]; rfl]
            refine WL.y (hy := (by first | exact fa | exact faE)) (h := ?_)
            first | refine st (h := ?_) | refine stE (h := ?_)
            refine nl (h := ?_)
            refine q_seq (h := ?_)
            refine sq (h := ?_)
            refine rg (h := ?_)
            refine WL.y (hy := (by first | exact ldA | exact ldEA)) (h := ?_)
            refine cl (hc := fun w hS => C_card_BoardsT f cf xs A n c w (hS.get (by repeat (first | exact Rds.ro | exact Rds.own | apply Rds.there))) hn (fun _ => by have := hR.m; omega) hR.b) (h := fun qa hqa => ?_)
            rw [hp0]
            have hqal := hqa.len
            refine WL.y (hy := mv) (h := ?_)
            refine WL.y (hy := ex) (h := ?_)
            refine WL.y (hy := ex) (h := ?_)
            refine WL.y (hy := asg) (h := ?_)
            refine WL.y (hy := asg) (h := ?_)
            refine nl (h := ?_)
            refine q_seq (h := ?_)
            refine sq (h := ?_)
            refine rg (h := ?_)
            refine WL.y (hy := (by first | exact ldA | exact ldEA)) (h := ?_)
            refine cl (hc := fun w hS => C_card_BoardsT f cf (xs ++ [x]) A1 (n + 1) c1 w (hS.get (by repeat (first | exact Rds.ro | exact Rds.own | apply Rds.there))) (by omega) (fun _ => by omega) hmo.2.2) (h := fun qb hqb => ?_)
            rw [hpx]
            have hqbl := hqb.len
            refine WL.y (hy := mv) (h := ?_)
            refine WL.y (hy := ex) (h := ?_)
            refine WL.y (hy := ex) (h := ?_)
            refine WL.y (hy := asg) (h := ?_)
            refine WL.y (hy := asg) (h := ?_)
            refine nl (h := ?_)
            refine q_seq (h := ?_)
            refine sq (h := ?_)
            refine rg (h := ?_)
            refine WL.y (hy := mv) (h := ?_)
            refine WL.y (hy := eql) (h := ?_)
            refine WL.y (hy := mv) (h := ?_)
            apply brAnd 3 142 145 (by exact rfl)
            · intro hb17
              refine un (h := ?_)
              refine WL.y (hy := mv) (h := ?_)
              refine un (h := ?_)
              refine WL.y (hy := eql) (h := ?_)
              refine WL.y (hy := (by first | exact pkT | exact pkF)) (h := ?_)
              exact mg (by repeat (first | exact trivial | refine ⟨rfl, ?_⟩ | refine ⟨by rw [hb17]; rfl, ?_⟩)) (by repeat (first | exact SubL.nil | (apply SubL.cons; (repeat (first | exact At.here | apply At.there))) | exact SubL.refl _ | apply SubL.skip))
            · intro hb17
              repeat (first | refine un (h := ?_) | refine sk (h := ?_) | refine WL.y (hy := pkF) (h := ?_) | refine WL.y (hy := pkT) (h := ?_))
              exact mg (by repeat (first | exact trivial | refine ⟨rfl, ?_⟩ | refine ⟨by rw [hb17]; rfl, ?_⟩)) (by repeat (first | exact SubL.nil | (apply SubL.cons; (repeat (first | exact At.here | apply At.there))) | exact SubL.refl _ | apply SubL.skip))
            refine WL.y (hy := mv) (h := ?_)
            apply brAnd 4 146 150 (by exact rfl)
            · intro hb18
              refine un (h := ?_)
              refine WL.y (hy := mv) (h := ?_)
              refine un (h := ?_)
              refine WL.y (hy := mv) (h := ?_)
              refine un (h := ?_)
              refine cl0 (hc := fun w hS => C_law3_sameBoards qa.zs qb.zs qa.A qb.A qa.zs.length qb.zs.length qa.c qb.c w (hS.get (by repeat (first | exact Rds.ro | exact Rds.own | apply Rds.there))) (hS.get (by repeat (first | exact Rds.ro | exact Rds.own | apply Rds.there))) (fun y hy => many_ok hy w (hS.ok _ (by repeat (first | exact List.mem_cons_self | apply List.mem_cons_of_mem)))) (fun y hy => many_ok hy w (hS.ok _ (by repeat (first | exact List.mem_cons_self | apply List.mem_cons_of_mem)))) hqa.sm hqb.sm (by omega) (by omega)) (h := ?_)
              rw [decide_eq_true (sure_brds hk3 hsB hqa hqb hp0 hpx)]
              refine WL.y (hy := (by first | exact pkT | exact pkF)) (h := ?_)
              exact mg (by repeat (first | exact trivial | refine ⟨rfl, ?_⟩ | refine ⟨by rw [hb18]; rfl, ?_⟩)) (by repeat (first | exact SubL.nil | (apply SubL.cons; (repeat (first | exact At.here | apply At.there))) | exact SubL.refl _ | apply SubL.skip))
            · intro hb18
              repeat (first | refine un (h := ?_) | refine sk (h := ?_) | refine WL.y (hy := pkF) (h := ?_) | refine WL.y (hy := pkT) (h := ?_))
              exact mg (by repeat (first | exact trivial | refine ⟨rfl, ?_⟩ | refine ⟨by rw [hb18]; rfl, ?_⟩)) (by repeat (first | exact SubL.nil | (apply SubL.cons; (repeat (first | exact At.here | apply At.there))) | exact SubL.refl _ | apply SubL.skip))
            refine WL.y (hy := mv) (h := ?_)
            apply brAnd 2 151 153 (by exact rfl)
            · intro hb19
              refine un (h := ?_)
              refine cl0 (hc := fun w hS => C_law3_works w) (h := ?_)
              refine WL.y (hy := (by first | exact pkT | exact pkF)) (h := ?_)
              exact mg (by repeat (first | exact trivial | refine ⟨rfl, ?_⟩ | refine ⟨by rw [hb19]; rfl, ?_⟩)) (by repeat (first | exact SubL.nil | (apply SubL.cons; (repeat (first | exact At.here | apply At.there))) | exact SubL.refl _ | apply SubL.skip))
            · intro hb19
              repeat (first | refine un (h := ?_) | refine sk (h := ?_) | refine WL.y (hy := pkF) (h := ?_) | refine WL.y (hy := pkT) (h := ?_))
              exact mg (by repeat (first | exact trivial | refine ⟨rfl, ?_⟩ | refine ⟨by rw [hb19]; rfl, ?_⟩)) (by repeat (first | exact SubL.nil | (apply SubL.cons; (repeat (first | exact At.here | apply At.there))) | exact SubL.refl _ | apply SubL.skip))
            refine WL.y (hy := asg) (h := ?_)
            refine nl (h := ?_)
            refine q_seq (h := ?_)
            refine rtn (h := ?_)
            refine q_ret (hR := ?_)
            exact fun w hS => ⟨rfl, hS.sub (by repeat (first | exact SubL.nil | (apply SubL.cons; (repeat (first | exact At.here | apply At.there))) | exact SubL.refl _ | apply SubL.skip))⟩
end Go.Proofs.Ytncoimjgjpcipaa
