/- The texts of the walk, part 6. -/
import Derived.Test.YtpejgebcmhmpaaaGreatJ5
namespace Go.Proofs.YtpejgebcmhmpaaaGreat
open Go Go.RowKit

structure MtA where
  (m : MS) (sA gA : Option Addr) (sc gc : Nat)
abbrev MtA.cells (q : MtA) : List Value := (refOf q.m).cells q.sA q.sc q.gA q.gc
def encM (l : List MtA) : List (List Value) := l.map MtA.cells
theorem encM_at {l : List MtA} {k : Nat} {q : MtA} (h : l[k]? = some q) : (encM l)[k]? = some q.cells := by unfold encM; rw [List.getElem?_map, h]; rfl
theorem encM_snoc (l : List MtA) (q : MtA) : encM l ++ [q.cells] = encM (l ++ [q]) := by unfold encM; rw [List.map_append]; rfl
theorem encB_get {l : List Bool} {k : Nat} {b : Bool} (h : l[k]? = some b) : (encB l)[k]? = some [.bool b] := by unfold encB; rw [List.getElem?_map, h]; rfl
theorem encB_set (l : List Bool) (k : Nat) (b : Bool) : (encB l).set k [.bool b] = encB (l.set k b) := by unfold encB; rw [List.map_set]
theorem encB_rep (n : Nat) : List.replicate n [Value.bool false] = encB (List.replicate n false) := by unfold encB; rw [List.map_replicate]
theorem bset_at {l : List Bool} {i t : Nat} (v : Bool) (h : i < l.length) : (l.set i v)[t]? = some true ↔ if t = i then v = true else l[t]? = some true := by
  rw [List.getElem?_set]
  by_cases e : i = t
  · subst e; rw [if_pos rfl, if_pos h, if_pos rfl]; simp
  · rw [if_neg e, if_neg (fun h => e h.symm)]
theorem rep_no (n t : Nat) : ¬ (List.replicate n false)[t]? = some true := fun h => by
  rw [List.getElem?_replicate] at h
  split at h <;> cases h
structure MtsI (f : Fmt) (first : Int) (ps : List Int) (k : Nat) (ms : List MtA) (U : List Row) : Prop where
  len : ms.length = k + 1
  ok : ∀ i q, ms[i]? = some q → playTo f first ps i = some q.m ∧ (⟨q.sA, 2, q.m.st.length, encP q.m.st⟩ : Row) ∈ U ∧ (⟨q.gA, 7, q.m.gs.length, encG q.m.gs⟩ : Row) ∈ U
theorem MtsI.snoc {f : Fmt} {first : Int} {ps : List Int} {k : Nat} {ms : List MtA} {U : List Row} (h : MtsI f first ps k ms U) {m : MS} {x : RU} (hm : playTo f first ps (k + 1) = some m) (hx : PtU U (refOf m) x) : MtsI f first ps (k + 1) (ms ++ [⟨m, x.sA, x.gA, x.sc, x.gc⟩]) x.U := by
  refine ⟨by rw [List.length_append, h.len]; rfl, fun i q hq => ?_⟩
  by_cases e : i < ms.length
  · rw [List.getElem?_append_left e] at hq
    obtain ⟨h1, h2, h3⟩ := h.ok i q hq
    exact ⟨h1, hx.sub _ h2, hx.sub _ h3⟩
  · rw [List.getElem?_append_right (by omega)] at hq
    have hl := h.len
    cases hd : i - ms.length with
    | succ d => rw [hd] at hq; simp at hq
    | zero =>
      rw [hd] at hq
      obtain rfl : (⟨m, x.sA, x.gA, x.sc, x.gc⟩ : MtA) = q := by simpa using hq
      rw [show i = k + 1 by omega]
      exact ⟨hm, hx.s, hx.g⟩
structure MOk (f : Fmt) (cf first : Int) (xs : List Nt) (ps : List Int) : Prop where
  fs : first = 0 ∨ first = 1
  cf : cf = -1 ∨ cf = first
  n : ps.length ≤ 600
  pl : ∃ m, playTo f first ps ps.length = some m
  fit : Fit f first ps xs xs.length ps.length
theorem fit_le {f : Fmt} {first : Int} {ps : List Int} {xs : List Nt} : ∀ {j n : Nat}, Fit f first ps xs j n → n ≤ ps.length
  | 0, n, h => by rw [show n = 0 from h]; exact Nat.zero_le _
  | j + 1, n, h => by
    obtain ⟨x, m, _, hm, hh⟩ := h
    have := fit_le hm
    unfold hitV at hh
    split at hh
    · exact hh.2.1
    · split at hh
      · exact hh.2.2
      · rw [hh.1]; exact this
structure KI (f : Fmt) (first : Int) (ps : List Int) (x : Nt) (bs : List Bool) (n i : Nat) (bt : List Bool) : Prop where
  len : bt.length = n + 1
  ok : ∀ t, bt[t]? = some true ↔ ∃ m, m < i ∧ bs[m]? = some true ∧ hitV f first ps x m t
section
variable {f : Fmt} {first : Int} {ps : List Int} {x : Nt} {bs bt : List Bool} {n i : Nat}
theorem KI.start : KI f first ps x bs n 0 (List.replicate (n + 1) false) := ⟨List.length_replicate .., fun t => ⟨fun h => absurd h (rep_no _ _), fun ⟨m, hm, _⟩ => absurd hm (Nat.not_lt_zero _)⟩⟩
theorem KI.next (h : KI f first ps x bs n i bt) {bu : List Bool} (hl : bu.length = n + 1) (hb : ∀ t, bu[t]? = some true ↔ bt[t]? = some true ∨ (bs[i]? = some true ∧ hitV f first ps x i t)) : KI f first ps x bs n (i + 1) bu := by
  refine ⟨hl, fun t => ?_⟩
  rw [hb t, h.ok t]
  constructor
  · rintro (⟨m, hm, hr⟩ | hr)
    · exact ⟨m, by omega, hr⟩
    · exact ⟨i, by omega, hr⟩
  · rintro ⟨m, hm, hr⟩
    by_cases e : m = i
    · subst e; exact .inr hr
    · exact .inl ⟨m, by omega, hr⟩
theorem KI.skip (h : KI f first ps x bs n i bt) (hn : ∀ t, ¬ (bs[i]? = some true ∧ hitV f first ps x i t)) : KI f first ps x bs n (i + 1) bt := h.next h.len fun t => ⟨.inl, fun h => h.elim id fun h => absurd h (hn t)⟩
theorem KI.one (h : KI f first ps x bs n i bt) (hk : x.kind = 1) (hbi : bs[i]? = some true) (hl : ps.length = n) (hin : i + 1 ≤ n) (hs : x.side = -1 ∨ ps[i]? = some x.side) : KI f first ps x bs n (i + 1) (bt.set (i + 1) true) := by
  refine h.next (by rw [List.length_set]; exact h.len) fun t => ?_
  rw [bset_at true (by rw [h.len]; omega)]
  unfold hitV
  rw [if_pos hk]
  by_cases e : t = i + 1
  · rw [if_pos e]; exact ⟨fun _ => .inr ⟨hbi, e, by omega, hs⟩, fun _ => rfl⟩
  · rw [if_neg e]; exact ⟨.inl, fun h => h.elim id fun h => absurd h.2.1 e⟩
theorem KI.one_no (h : KI f first ps x bs n i bt) (hk : x.kind = 1) (hl : ps.length = n) (hs : ¬ (i + 1 ≤ n ∧ (x.side = -1 ∨ ps[i]? = some x.side))) : KI f first ps x bs n (i + 1) bt := h.skip fun t ⟨_, ht⟩ => by
  unfold hitV at ht
  rw [if_pos hk] at ht
  exact hs ⟨by omega, ht.2.2⟩
theorem KI.test (h : KI f first ps x bs n i bt) (h1 : x.kind ≠ 1) (h2 : x.kind ≠ 2) (hbi : bs[i]? = some true) (hin : i ≤ n) {v : Bool} (hv : bt[i]? = some v) {u : Bool} (hu : u = holdS f x (spS f first ps i)) : KI f first ps x bs n (i + 1) (bt.set i (v || u)) := by
  refine h.next (by rw [List.length_set]; exact h.len) fun t => ?_
  rw [bset_at _ (by rw [h.len]; omega)]
  unfold hitV
  rw [if_neg h1, if_neg h2]
  by_cases e : t = i
  · subst e
    rw [if_pos rfl, hv, Bool.or_eq_true, hu, Option.some.injEq]
    exact ⟨fun h => h.imp id fun h => ⟨hbi, rfl, h⟩, fun h => h.imp id fun h => h.2.2⟩
  · rw [if_neg e]; exact ⟨.inl, fun h => h.elim id fun h => absurd h.2.1 e⟩
structure PI (x : Nt) (bt : List Bool) (n i k : Nat) (bu : List Bool) : Prop where
  len : bu.length = n + 1
  kb : x.pair.1 ≤ (k : Int) ∧ ((k : Int) = x.pair.1 ∨ ((k : Int) ≤ x.pair.2 + 1 ∧ i + k ≤ n + 1))
  ok : ∀ t, bu[t]? = some true ↔ bt[t]? = some true ∨ ∃ j : Nat, x.pair.1 ≤ (j : Int) ∧ j < k ∧ t = i + j
theorem PI.start (hl : bt.length = n + 1) {k : Nat} (hk : (k : Int) = x.pair.1) : PI x bt n i k bt := ⟨hl, ⟨by omega, .inl hk⟩, fun t => ⟨.inl, fun h => h.elim id fun ⟨j, h1, h2, _⟩ => by omega⟩⟩
theorem PI.next {k : Nat} {bu : List Bool} (h : PI x bt n i k bu) (h1 : (k : Int) ≤ x.pair.2) (h2 : i + k < n + 1) : PI x bt n i (k + 1) (bu.set (i + k) true) := by
  have hk := h.kb
  refine ⟨by rw [List.length_set]; exact h.len, ⟨by omega, .inr ⟨by omega, by omega⟩⟩, fun t => ?_⟩
  rw [bset_at true (by rw [h.len]; omega), h.ok t]
  by_cases e : t = i + k
  · rw [if_pos e]; exact ⟨fun _ => .inr ⟨k, hk.1, by omega, e⟩, fun _ => rfl⟩
  · rw [if_neg e]
    refine ⟨fun h => h.imp id fun ⟨j, a, b, c⟩ => ⟨j, a, by omega, c⟩, fun h => h.imp id fun ⟨j, a, b, c⟩ => ⟨j, a, ?_, c⟩⟩
    by_cases e2 : j = k
    · subst e2; exact absurd c e
    · omega
theorem PI.done {k : Nat} {bu : List Bool} (h : PI x bt n i k bu) (hx : x.kind = 2) (hr : 0 ≤ x.pair.1 ∧ x.pair.1 ≤ x.pair.2) (hin : i ≤ n) (hk : ¬ ((k : Int) ≤ x.pair.2 ∧ i + k < n + 1)) (hbi : bs[i]? = some true) (hl : ps.length = n) (hK : KI f first ps x bs n i bt) : KI f first ps x bs n (i + 1) bu := by
  have hkk := h.kb
  refine hK.next h.len fun t => ?_
  rw [h.ok t]
  unfold hitV
  rw [if_neg (show ¬ x.kind = 1 by omega), if_pos hx]
  constructor
  · rintro (h | ⟨j, h1, h2, rfl⟩)
    · exact .inl h
    · exact .inr ⟨hbi, ⟨by omega, by omega⟩, by omega, by omega⟩
  · rintro (h | ⟨_, ⟨h1, h2⟩, h3, h4⟩)
    · exact .inl h
    · exact .inr ⟨t - i, by omega, by omega, by omega⟩
end
structure IZ where
  (k : Nat) (ms : List MtA) (l : MtA) (A : Option Addr) (c : Nat) (U : List Row)
structure JZ where
  (j : Nat) (bs : List Bool) (A : Option Addr) (c : Nat)
structure MKZ where
  (i : Nat) (bt : List Bool)
set_option maxRecDepth 100000 in
set_option maxHeartbeats 1000000 in
theorem C_ref3_IsMatch (f : Fmt) (cf : Int) (xs : List Nt) (A : Option Addr) (na c : Nat) (first : Int) (ps : List Int) (P : Option Addr) (n cp : Nat) (w : World) (h : Rd w A 4 na (encN xs)) (h' : Rd w P 1 n (encI ps)) (hn : n ≤ 9223372036854775807) (hx0 : na ≤ 60) (hck : chkC f cf xs = 0) :
    CR Tryz.prog 20 [.agg (cardC f cf A na c).toArray, .int .i64 first, .slice P n cp] w (fun b : Bool => b = true ↔ MOk f cf first xs ps) (fun b => .bool b) (fun _ => []) := by
  have hlx : xs.length = na := by have := h.len; rwa [encN_len] at this
  have hlp : ps.length = n := by have := h'.len; rwa [encI_len] at this
  obtain ⟨hc0, hf, hcf, hl30, hmk, -⟩ := chk_facts hck
  refine ⟨en Tryz.func20 Tryz.ntmps20 (((St.init w).share (e := .ro A 4 na (encN xs)) h rfl rfl rfl).share (e := .ro P 1 n (encI ps)) h' rfl rfl rfl) (h := fun F => ?_)⟩
  refine sq (h := ?_)
  refine rg (h := ?_)
  refine bxA (h := fun b0 => ?_)
  refine WL.y (hy := asg) (h := ?_)
  refine nl (h := ?_)
  refine q_seq (h := ?_)
  refine sq (h := ?_)
  refine sq (h := ?_)
  refine rg (h := ?_)
  refine WL.y (hy := mv) (h := ?_)
  refine cl0 (hc := fun w hS => C_ref3_within ..) (h := ?_)
  refine WL.y (hy := notB) (h := ?_)
  refine WL.y (hy := mv) (h := ?_)
  apply brOr 10 20 30 (by exact rfl)
  · intro hb0
    refine un (h := ?_)
    refine WL.y (hy := (by first | exact fa | exact faE)) (h := ?_)
    refine un (h := ?_)
    refine WL.y (hy := (by first | exact ld | exact ldE)) (h := ?_)
    refine un (h := ?_)
    refine WL.y (hy := neq) (h := ?_)
    refine un (h := ?_)
    refine WL.y (hy := mv) (h := ?_)
    apply brAnd 5 24 29 (by exact rfl)
    · intro hb1
      refine un (h := ?_)
      refine WL.y (hy := (by first | exact fa | exact faE)) (h := ?_)
      refine un (h := ?_)
      refine WL.y (hy := (by first | exact ld | exact ldE)) (h := ?_)
      refine un (h := ?_)
      refine WL.y (hy := mv) (h := ?_)
      refine un (h := ?_)
      refine WL.y (hy := neq) (h := ?_)
      refine un (h := ?_)
      refine WL.y (hy := (by first | exact pkT | exact pkF)) (h := ?_)
      exact mg (by repeat (first | exact trivial | refine ⟨rfl, ?_⟩ | refine ⟨by rw [hb1]; rfl, ?_⟩ | refine ⟨by rw [hb0]; rfl, ?_⟩)) (by repeat (first | exact SubL.nil | (apply SubL.cons; (repeat (first | exact At.here | apply At.there))) | exact SubL.refl _ | apply SubL.skip))
    · intro hb1
      repeat (first | refine un (h := ?_) | refine sk (h := ?_) | refine WL.y (hy := pkF) (h := ?_) | refine WL.y (hy := pkT) (h := ?_))
      exact mg (by repeat (first | exact trivial | refine ⟨rfl, ?_⟩ | refine ⟨by rw [hb1]; rfl, ?_⟩ | refine ⟨by rw [hb0]; rfl, ?_⟩)) (by repeat (first | exact SubL.nil | (apply SubL.cons; (repeat (first | exact At.here | apply At.there))) | exact SubL.refl _ | apply SubL.skip))
    refine WL.y (hy := (by first | exact pkT | exact pkF)) (h := ?_)
    exact mg (by repeat (first | exact trivial | refine ⟨rfl, ?_⟩ | refine ⟨by rw [hb0]; rfl, ?_⟩)) (by repeat (first | exact SubL.nil | (apply SubL.cons; (repeat (first | exact At.here | apply At.there))) | exact SubL.refl _ | apply SubL.skip))
  · intro hb0
    repeat (first | refine un (h := ?_) | refine sk (h := ?_) | refine WL.y (hy := pkF) (h := ?_) | refine WL.y (hy := pkT) (h := ?_))
    exact mg (by repeat (first | exact trivial | refine ⟨rfl, ?_⟩ | refine ⟨by rw [hb0]; rfl, ?_⟩)) (by repeat (first | exact SubL.nil | (apply SubL.cons; (repeat (first | exact At.here | apply At.there))) | exact SubL.refl _ | apply SubL.skip))
  refine WL.y (hy := mv) (h := ?_)
  apply brOr 4 31 35 (by exact rfl)
  · intro hb2
    refine un (h := ?_)
    refine WL.y (hy := mv) (h := ?_)
    refine un (h := ?_)
    refine WL.y (hy := lenS) (h := ?_)
    refine un (h := ?_)
    refine WL.y (hy := gtr) (h := ?_)
    refine WL.y (hy := (by first | exact pkT | exact pkF)) (h := ?_)
    exact mg (by repeat (first | exact trivial | refine ⟨rfl, ?_⟩ | refine ⟨by rw [hb2]; rfl, ?_⟩)) (by repeat (first | exact SubL.nil | (apply SubL.cons; (repeat (first | exact At.here | apply At.there))) | exact SubL.refl _ | apply SubL.skip))
  · intro hb2
    repeat (first | refine un (h := ?_) | refine sk (h := ?_) | refine WL.y (hy := pkF) (h := ?_) | refine WL.y (hy := pkT) (h := ?_))
    exact mg (by repeat (first | exact trivial | refine ⟨rfl, ?_⟩ | refine ⟨by rw [hb2]; rfl, ?_⟩)) (by repeat (first | exact SubL.nil | (apply SubL.cons; (repeat (first | exact At.here | apply At.there))) | exact SubL.refl _ | apply SubL.skip))
  refine nl (h := ?_)
  refine q_seq (h := ?_)
  refine cd (by exact rfl) (fun h3 => ?_) (fun h3 => ?_)
  · skip
    have hno : ¬ MOk f cf first xs ps := fun hM => by
      have h0 := h3
      have h1 := hM.fs
      have h2 := hM.cf
      have h3 := hM.n
      simp [wi] at h0
      omega
    refine sq (h := ?_)
    refine rg (h := ?_)
    refine WL.y (hy := asg) (h := ?_)
    refine nl (h := ?_)
    refine q_seq (h := ?_)
    refine rtn (h := ?_)
    refine q_then_ret (h := ?_)
    refine q_ret (hR := ?_)
    exact fun w hS => ⟨false, ⟨fun h9 => (by cases h9), fun h9 => absurd h9 hno⟩, rfl, hS.sub (by repeat (first | exact SubL.nil | (apply SubL.cons; (repeat (first | exact At.here | apply At.there))) | exact SubL.refl _ | apply SubL.skip))⟩
  · skip
    have hfc : (first = 0 ∨ first = 1) ∧ (cf = -1 ∨ cf = first) ∧ n ≤ 600 := by
      have h0 := h3
      simp [wi] at h0
      omega
    obtain ⟨hfs, hfc2, hn6⟩ := hfc
    refine skp (h := ?_)
    refine q_seq (h := ?_)
    refine sq (h := ?_)
    refine rg (h := ?_)
    refine WL.y (hy := (by first | exact fa | exact faE)) (h := ?_)
    refine WL.y (hy := (by first | exact ldA | exact ldEA)) (h := ?_)
    refine WL.y (hy := mv) (h := ?_)
    refine cl0 (hc := fun w hS => C_ref1_Begin _ _ (by assumption) w) (h := ?_)
    refine al (h := fun b1 => ?_)
    first | refine stA (h := ?_) | refine stEA (h := ?_)
    refine nl (h := ?_)
    refine q_seq (h := ?_)
    refine sq (h := ?_)
    refine rg (h := ?_)
    refine WL.y (hy := (by first | exact ldA | exact ldEA)) (h := ?_)
    refine bs (h := fun b2 => ?_)
    refine WL.y (hy := asg) (h := ?_)
    refine nl (h := ?_)
    refine q_seq (h := ?_)
    refine sq (h := ?_)
    refine sq (h := ?_)
    refine WC.nilOwn 43 2 (h := ?_)
    refine WC.nilOwn 140 7 (h := ?_)
    refine WC.many0 (h := ?_)
    refine WC.manyAdd (A := none) (size := 2) (by repeat (first | exact At.here | apply At.there)) (by repeat (first | exact At.here | apply At.there)) ?_
    refine WC.manyAdd (A := none) (size := 7) (by repeat (first | exact At.here | apply At.there)) (by repeat (first | exact At.here | apply At.there)) ?_
    rw [List.nil_append]
    refine rg (h := ?_)
    refine WL.y (hy := asg) (h := ?_)
    refine WL.cut (by repeat (first | exact Cut.nil | apply Cut.hit | apply Cut.miss (by exact rfl))) ?_
    refine nl (h := ?_)
    refine q_seq (h := ?_)
    refine bk (h := ?_)
    refine lp (X := IZ) (I := fun z => z.k ≤ n ∧ MtsI f first ps z.k z.ms z.U ∧ z.ms[z.k]? = some z.l) (le := fun z => [(1, .int .i64 first), (2, .slice P n cp), (3, .pointer (some ⟨b0, 0, none⟩)), (7, .pointer (some ⟨b1, 0, none⟩)), (8, .slice z.A (z.k + 1) z.c), (9, .int .i64 z.k)]) (Le := fun z => [.blk b1 89 z.l.cells, .own z.A z.c 89 12 (z.k + 1) (encM z.ms), manyE true z.U, .blk b0 26 (cardC f cf A na c), .ro P 1 n (encI ps), .ro A 4 na (encN xs)]) (μ := fun z => n - z.k) ⟨0, [⟨beginV f first, none, none, 0, 0⟩], ⟨beginV f first, none, none, 0, 0⟩, some ⟨b2, 0, none⟩, 1, [⟨none, 2, 0, []⟩] ++ [⟨none, 7, 0, []⟩]⟩ ⟨Nat.zero_le _, ⟨rfl, fun i q hq => by
      cases i with
      | succ i => simp at hq
      | zero =>
        obtain rfl : (⟨beginV f first, none, none, 0, 0⟩ : MtA) = q := by simpa using hq
        exact ⟨rfl, List.mem_append_left _ (List.mem_singleton.2 rfl), List.mem_append_right _ (List.mem_singleton.2 rfl)⟩⟩, rfl⟩ (by repeat (first | exact trivial | refine ⟨rfl, ?_⟩)) (by repeat (first | exact SubL.nil | (apply SubL.cons; (repeat (first | exact At.here | apply At.there))) | exact SubL.refl _ | apply SubL.skip)) (fun z hz => ?_)
    obtain ⟨hzk, hzm, hzl⟩ := hz
    obtain ⟨hzp, -, -⟩ := hzm.ok z.k z.l hzl
    obtain ⟨hzf, hz1, hzi⟩ := playTo_inv hf hzp
    have hzb := playTo_bd hf hfs (by omega) hzp
    refine sq (h := ?_)
    refine sq (h := ?_)
    refine rg (h := ?_)
    refine WL.y (hy := mv) (h := ?_)
    refine WL.y (hy := mv) (h := ?_)
    refine WL.y (hy := lenS) (h := ?_)
    refine WL.y (hy := lss) (h := ?_)
    refine nl (h := ?_)
    refine q_seq (h := ?_)
    refine cd (by exact rfl) (fun h4 => ?_) (fun h4 => ?_)
    · skip
      have hkn : z.k < n := by have := of_decide_eq_true h4; omega
      obtain ⟨p, hp⟩ : ∃ p, ps[z.k]? = some p := ⟨_, List.getElem?_eq_getElem (by omega)⟩
      have hpe := encI_at hp
      have hstep := playTo_succ hzp hp
      refine skp (h := ?_)
      refine q_seq (h := ?_)
      refine sq (h := ?_)
      refine bk (h := ?_)
      refine sq (h := ?_)
      refine sq (h := ?_)
      refine rg (h := ?_)
      refine WL.y (hy := mv) (h := ?_)
      refine WL.y (hy := mv) (h := ?_)
      refine WL.y (hy := ix (A := P) (m := n) (hb := by omega)) (h := ?_)
      refine WL.y (hy := ldE (A := P) (hk := hpe)) (h := ?_)
      refine cl0 (hc := fun w hS => C_ref3_within ..) (h := ?_)
      refine WL.y (hy := notB) (h := ?_)
      refine WL.y (hy := mv) (h := ?_)
      apply brOr 5 54 59 (by exact rfl)
      · intro hb5
        refine un (h := ?_)
        refine WL.y (hy := (by first | exact fa | exact faE)) (h := ?_)
        refine un (h := ?_)
        refine WL.y (hy := (by first | exact fa | exact faE)) (h := ?_)
        refine un (h := ?_)
        refine WL.y (hy := (by first | exact ld | exact ldE)) (h := ?_)
        refine un (h := ?_)
        refine WL.y (hy := geq) (h := ?_)
        refine WL.y (hy := (by first | exact pkT | exact pkF)) (h := ?_)
        exact mg (by repeat (first | exact trivial | refine ⟨rfl, ?_⟩ | refine ⟨by rw [hb5]; rfl, ?_⟩)) (by repeat (first | exact SubL.nil | (apply SubL.cons; (repeat (first | exact At.here | apply At.there))) | exact SubL.refl _ | apply SubL.skip))
      · intro hb5
        repeat (first | refine un (h := ?_) | refine sk (h := ?_) | refine WL.y (hy := pkF) (h := ?_) | refine WL.y (hy := pkT) (h := ?_))
        exact mg (by repeat (first | exact trivial | refine ⟨rfl, ?_⟩ | refine ⟨by rw [hb5]; rfl, ?_⟩)) (by repeat (first | exact SubL.nil | (apply SubL.cons; (repeat (first | exact At.here | apply At.there))) | exact SubL.refl _ | apply SubL.skip))
      refine nl (h := ?_)
      refine q_seq (h := ?_)
      refine cd (by exact rfl) (fun h6 => ?_) (fun h6 => ?_)
      · skip
        have hb' : (sideBad p || decide (0 ≤ z.l.m.winner)) = true := by rw [← side_wi]; exact h6
        have hno : ¬ MOk f cf first xs ps := fun hM => by
          rw [hb'] at hstep
          obtain ⟨m9, h9⟩ := hM.pl
          rw [playTo_none (k := ps.length) hstep (by omega)] at h9
          cases h9
        refine sq (h := ?_)
        refine rg (h := ?_)
        refine WL.y (hy := asg) (h := ?_)
        refine nl (h := ?_)
        refine q_seq (h := ?_)
        refine rtn (h := ?_)
        refine q_then_ret (h := ?_)
        refine q_blk_ret (h := ?_)
        refine q_then_ret (h := ?_)
        refine q_then_ret (h := ?_)
        refine q_blk_ret (h := ?_)
        refine q_then_ret (h := ?_)
        refine q_ret (hR := ?_)
        exact fun w hS => ⟨false, ⟨fun h9 => (by cases h9), fun h9 => absurd h9 hno⟩, rfl, hS.sub (by repeat (first | exact SubL.nil | (apply SubL.cons; (repeat (first | exact At.here | apply At.there))) | exact SubL.refl _ | apply SubL.skip))⟩
      · skip
        have hb' : (sideBad p || decide (0 ≤ z.l.m.winner)) = false := by rw [← side_wi]; exact h6
        have hnx : playTo f first ps (z.k + 1) = some (pointV z.l.m p) := by rw [hstep, hb']; rfl
        have h2' := Bool.or_eq_false_iff.1 hb'
        have hsd := side_ok h2'.1
        have hin : z.l.m.Inv := by
          rcases hzi with hi | hd
          · exact hi
          · have h1 := hd.w
            have h2 := h2'.2
            rw [decide_eq_false_iff_not] at h2
            omega
        obtain ⟨_, hUs, hUg⟩ := hzm.ok z.k z.l hzl
        refine skp (h := ?_)
        refine q_seq (h := ?_)
        refine sq (h := ?_)
        refine rgD (by kernel_rfl) [(8, .blk b1 89 z.l.cells), (1000000, .blk b0 26 (cardC f cf A na c)), (1000000, .ro P 1 n (encI ps))] (by repeat (first | exact HS.nil | (apply HS.keep; (repeat (first | exact At.here | apply At.there))) | (apply HS.ro; (repeat (first | exact Rds.ro | exact Rds.own | apply Rds.there))))) (h := ?_)
        refine tk 0 (hy := (by first | exact fa | exact faE)) (h := ?_)
        refine tk 1 (hy := (by first | exact ldA | exact ldEA)) (h := ?_)
        refine tk 2 (hy := (by first | exact ldA | exact ldEA)) (h := ?_)
        refine tk 3 (hy := mv) (h := ?_)
        refine tk 4 (hy := mv) (h := ?_)
        refine tk 5 (hy := ix (A := P) (m := n) (hb := by omega)) (h := ?_)
        refine tk 6 (hy := ldE (A := P) (hk := hpe)) (h := ?_)
        refine one 7 (h := ?_)
        refine clT (hc := T_ref1_PointU' f z.l.m hzf p z.k z.l.sA z.l.sc z.l.gA z.l.gc z.U hUs hUg hf hzb (by omega) hin hsd) (h := fun xu hxu => ?_)
        refine nx (h := ?_)
        refine one 8 (h := ?_)
        first | refine stA (h := ?_) | refine stEA (h := ?_)
        refine nx (h := ?_)
        refine dn (h := ?_)
        refine q_seq (h := ?_)
        refine rg (h := ?_)
        refine WL.y (hy := mv) (h := ?_)
        refine WL.y (hy := (by first | exact ldA | exact ldEA)) (h := ?_)
        refine bs (h := fun b3 => ?_)
        refine ap (es := encM z.ms) (m := z.k + 1) (k := 1) (A := z.A) (c := z.c) (h := fun A1 c1 => ?_)
        rw [show encM z.ms ++ [(refOf (pointV z.l.m p)).cells xu.sA xu.sc xu.gA xu.gc] = encM (z.ms ++ [⟨pointV z.l.m p, xu.sA, xu.gA, xu.sc, xu.gc⟩]) from encM_snoc z.ms ⟨pointV z.l.m p, xu.sA, xu.gA, xu.sc, xu.gc⟩]
        refine WL.y (hy := asg) (h := ?_)
        refine nl (h := ?_)
        refine q_blk_norm (h := ?_)
        refine q_seq (h := ?_)
        refine rg (h := ?_)
        refine WL.y (hy := mv) (h := ?_)
        refine WL.y (hy := addI) (h := ?_)
        refine WL.y (hy := asg) (h := ?_)
        refine WL.cut (by repeat (first | exact Cut.nil | apply Cut.hit | apply Cut.miss (by exact rfl))) ?_
        refine nl (h := ?_)
        refine rn (x := z) ⟨z.k + 1, z.ms ++ [⟨pointV z.l.m p, xu.sA, xu.gA, xu.sc, xu.gc⟩], ⟨pointV z.l.m p, xu.sA, xu.gA, xu.sc, xu.gc⟩, A1, c1, xu.U⟩ ⟨by dsimp only; omega, hzm.snoc hnx hxu, by have := hzm.len; dsimp only; rw [List.getElem?_append_right (by omega), show z.k + 1 - z.ms.length = 0 by omega]; rfl⟩ (by dsimp only; omega) (by repeat (first | exact trivial | refine ⟨rfl, ?_⟩)) (by repeat (first | exact SubL.nil | (apply SubL.cons; (repeat (first | exact At.here | apply At.there))) | exact SubL.refl _ | apply SubL.skip))
    · skip
      have hkn : z.k = n := by have := of_decide_eq_false h4; omega
      rw [hkn] at hzm hzp
      obtain ⟨zm, hzme⟩ : ∃ y : IZ, y = z := ⟨_, rfl⟩
      rw [hkn, ← hzme]
      rw [← hzme] at hzm hzp hzl
      have hml := hzm.len
      have hpc := (play_spot hf hzp).2
      have hst0 : ((List.replicate (n + 1) false).set 0 true).length = n + 1 := by rw [List.length_set, List.length_replicate]
      refine et (h := ?_)
      refine q_then_exit (h := ?_)
      refine q_then_exit (h := ?_)
      refine q_blk_hit (h := ?_)
      refine q_seq (h := ?_)
      refine sq (h := ?_)
      refine rg (h := ?_)
      refine WL.y (hy := mv) (h := ?_)
      refine WL.y (hy := lenS) (h := ?_)
      refine mks (n + 1) (hx := by exact rfl) (hy := by exact rfl) (h := fun bE => ?_)
      rw [encB_rep]
      refine WL.y (hy := asg) (h := ?_)
      refine WL.cut (by repeat (first | exact Cut.nil | apply Cut.hit | apply Cut.miss (by exact rfl))) ?_
      refine nl (h := ?_)
      refine q_seq (h := ?_)
      refine sq (h := ?_)
      refine rg (h := ?_)
      refine WL.y (hy := mv) (h := ?_)
      refine WL.y (hy := ix (A := some ⟨bE, 0, none⟩) (m := n + 1) (hb := by omega)) (h := ?_)
      refine stE (A := some ⟨bE, 0, none⟩) (k := 0) (j := 0) (hk := encB_get (b := false) (by rw [List.getElem?_replicate, if_pos (Nat.succ_pos n)])) (h := ?_)
      rw [show (encB (List.replicate (n + 1) false)).set 0 ([Value.bool false].set 0 (.bool true)) = encB ((List.replicate (n + 1) false).set 0 true) from encB_set _ _ _]
      refine nl (h := ?_)
      refine q_seq (h := ?_)
      refine sq (h := ?_)
      refine sq (h := ?_)
      refine rg (h := ?_)
      refine WL.y (hy := asg) (h := ?_)
      refine WL.cut (by repeat (first | exact Cut.nil | apply Cut.hit | apply Cut.miss (by exact rfl))) ?_
      refine nl (h := ?_)
      refine q_seq (h := ?_)
      refine bk (h := ?_)
      refine lp (X := JZ) (I := fun v => v.j ≤ na ∧ v.bs.length = n + 1 ∧ ∀ t, v.bs[t]? = some true ↔ Fit f first ps xs v.j t) (le := fun v => [(2, .slice P n cp), (3, .pointer (some ⟨b0, 0, none⟩)), (8, .slice zm.A (n + 1) zm.c), (10, .slice v.A (n + 1) v.c), (11, .int .i64 v.j)]) (Le := fun v => [.own v.A v.c 4 1 (n + 1) (encB v.bs), .own zm.A zm.c 89 12 (n + 1) (encM zm.ms), manyE true zm.U, .blk b0 26 (cardC f cf A na c), .ro P 1 n (encI ps), .ro A 4 na (encN xs)]) (μ := fun v => na - v.j) ⟨0, (List.replicate (n + 1) false).set 0 true, some ⟨bE, 0, none⟩, n + 1⟩ ⟨Nat.zero_le _, hst0, fun t => by
        rw [bset_at true (by rw [List.length_replicate]; omega)]
        show _ ↔ t = 0
        by_cases e : t = 0
        · rw [if_pos e]; exact ⟨fun _ => e, fun _ => rfl⟩
        · rw [if_neg e]; exact ⟨fun h9 => absurd h9 (rep_no _ _), fun h9 => absurd h9 e⟩⟩ (by repeat (first | exact trivial | refine ⟨rfl, ?_⟩)) (by repeat (first | exact SubL.nil | (apply SubL.cons; (repeat (first | exact At.here | apply At.there))) | exact SubL.refl _ | apply SubL.skip)) (fun v hv => ?_)
      obtain ⟨hvj, hvl, hvb⟩ := hv
      refine sq (h := ?_)
      refine sq (h := ?_)
      refine rg (h := ?_)
      refine WL.y (hy := mv) (h := ?_)
      refine WL.y (hy := (by first | exact fa | exact faE)) (h := ?_)
      refine WL.y (hy := (by first | exact ld | exact ldE)) (h := ?_)
      refine WL.y (hy := lenS) (h := ?_)
      refine WL.y (hy := lss) (h := ?_)
      refine nl (h := ?_)
      refine q_seq (h := ?_)
      refine cd (by exact rfl) (fun h7 => ?_) (fun h7 => ?_)
      · skip
        have hjn : v.j < na := by have := of_decide_eq_true h7; omega
        obtain ⟨x, hx⟩ : ∃ x, xs[v.j]? = some x := ⟨_, List.getElem?_eq_getElem (by omega)⟩
        have hxe := encN_at hx
        have hxm := mk_kind (hmk x (List.mem_of_getElem? hx))
        refine skp (h := ?_)
        refine q_seq (h := ?_)
        refine sq (h := ?_)
        refine bk (h := ?_)
        refine sq (h := ?_)
        refine rg (h := ?_)
        refine WL.y (hy := (by first | exact fa | exact faE)) (h := ?_)
        refine WL.y (hy := (by first | exact ld | exact ldE)) (h := ?_)
        refine WL.y (hy := mv) (h := ?_)
        refine WL.y (hy := ix (A := A) (m := na) (hb := by omega)) (h := ?_)
        refine WL.y (hy := ldEA (A := A) (hk := hxe)) (h := ?_)
        refine al (h := fun b4 => ?_)
        first | refine stA (h := ?_) | refine stEA (h := ?_)
        refine nl (h := ?_)
        refine q_seq (h := ?_)
        refine sq (h := ?_)
        refine rg (h := ?_)
        refine WL.y (hy := mv) (h := ?_)
        refine WL.y (hy := lenS) (h := ?_)
        refine mks (n + 1) (hx := by exact rfl) (hy := by exact rfl) (h := fun bM => ?_)
        rw [encB_rep]
        refine WL.y (hy := asg) (h := ?_)
        refine nl (h := ?_)
        refine q_seq (h := ?_)
        refine sq (h := ?_)
        refine sq (h := ?_)
        refine rg (h := ?_)
        refine WL.y (hy := asg) (h := ?_)
        refine WL.cut (by repeat (first | exact Cut.nil | apply Cut.hit | apply Cut.miss (by exact rfl))) ?_
        refine nl (h := ?_)
        refine q_seq (h := ?_)
        refine bk (h := ?_)
        refine lp (X := MKZ) (I := fun y => y.i ≤ n + 1 ∧ KI f first ps x v.bs n y.i y.bt) (le := fun y => [(2, .slice P n cp), (3, .pointer (some ⟨b0, 0, none⟩)), (8, .slice zm.A (n + 1) zm.c), (10, .slice v.A (n + 1) v.c), (11, .int .i64 v.j), (12, .pointer (some ⟨b4, 0, none⟩)), (13, .slice (some ⟨bM, 0, none⟩) (n + 1) (n + 1)), (14, .int .i64 y.i)]) (Le := fun y => [.own (some ⟨bM, 0, none⟩) (n + 1) 4 1 (n + 1) (encB y.bt), .blk b4 45 x.cells, .own v.A v.c 4 1 (n + 1) (encB v.bs), .own zm.A zm.c 89 12 (n + 1) (encM zm.ms), manyE true zm.U, .blk b0 26 (cardC f cf A na c), .ro P 1 n (encI ps), .ro A 4 na (encN xs)]) (μ := fun y => n + 1 - y.i) ⟨0, List.replicate (n + 1) false⟩ ⟨Nat.zero_le _, KI.start⟩ (by repeat (first | exact trivial | refine ⟨rfl, ?_⟩)) (by repeat (first | exact SubL.nil | (apply SubL.cons; (repeat (first | exact At.here | apply At.there))) | exact SubL.refl _ | apply SubL.skip)) (fun y hy => ?_)
        obtain ⟨hyi, hyK⟩ := hy
        refine sq (h := ?_)
        refine sq (h := ?_)
        refine rg (h := ?_)
        refine WL.y (hy := mv) (h := ?_)
        refine WL.y (hy := mv) (h := ?_)
        refine WL.y (hy := lenS) (h := ?_)
        refine WL.y (hy := lss) (h := ?_)
        refine nl (h := ?_)
        refine q_seq (h := ?_)
        refine cd (by exact rfl) (fun h8 => ?_) (fun h8 => ?_)
        · skip
          have hin1 : y.i < n + 1 := by have := of_decide_eq_true h8; omega
          obtain ⟨e, he⟩ : ∃ e, v.bs[y.i]? = some e := ⟨_, List.getElem?_eq_getElem (by omega)⟩
          have hee := encB_get he
          refine skp (h := ?_)
          refine q_seq (h := ?_)
          refine sq (h := ?_)
          refine bk (h := ?_)
          refine sq (h := ?_)
          refine sq (h := ?_)
          refine rg (h := ?_)
          refine WL.y (hy := mv) (h := ?_)
          refine WL.y (hy := mv) (h := ?_)
          refine WL.y (hy := ix (A := v.A) (m := n + 1) (hb := by omega)) (h := ?_)
          refine WL.y (hy := ldE (A := v.A) (k := y.i) (hk := hee)) (h := ?_)
          refine WL.y (hy := notB) (h := ?_)
          refine nl (h := ?_)
          refine q_seq (h := ?_)
          refine cd (by exact rfl) (fun h9 => ?_) (fun h9 => ?_)
          · skip
            have hKn := hyK.skip (fun t ⟨g9, _⟩ => by rw [he] at g9; have g8 : (!e) = true := h9; cases Option.some.inj g9; cases g8)
            refine et (h := ?_)
            refine q_then_exit (h := ?_)
            refine q_blk_hit (h := ?_)
            refine q_seq (h := ?_)
            refine rg (h := ?_)
            refine WL.y (hy := mv) (h := ?_)
            refine WL.y (hy := addI) (h := ?_)
            refine WL.y (hy := asg) (h := ?_)
            refine WL.cut (by repeat (first | exact Cut.nil | apply Cut.hit | apply Cut.miss (by exact rfl))) ?_
            refine nl (h := ?_)
            first
              | (refine rn (x := y) ⟨y.i + 1, y.bt⟩ ⟨by dsimp only; omega, hKn⟩ (by dsimp only; omega) (by repeat (first | exact trivial | refine ⟨rfl, ?_⟩)) (by repeat (first | exact SubL.nil | (apply SubL.cons; (repeat (first | exact At.here | apply At.there))) | exact SubL.refl _ | apply SubL.skip)); done)
              | (refine rn (x := y) ⟨y.i + 1, y.bt.set (y.i + 1) true⟩ ⟨by dsimp only; omega, hKn⟩ (by dsimp only; omega) (by repeat (first | exact trivial | refine ⟨rfl, ?_⟩)) (by repeat (first | exact SubL.nil | (apply SubL.cons; (repeat (first | exact At.here | apply At.there))) | exact SubL.refl _ | apply SubL.skip)); done)
              | (refine rn (x := y) ⟨y.i + 1, g.2⟩ ⟨by dsimp only; omega, hKn⟩ (by dsimp only; omega) (by repeat (first | exact trivial | refine ⟨rfl, ?_⟩)) (by repeat (first | exact SubL.nil | (apply SubL.cons; (repeat (first | exact At.here | apply At.there))) | exact SubL.refl _ | apply SubL.skip)); done)
              | (refine rn (x := y) ⟨y.i + 1, y.bt.set y.i (v1 || tstV q.m.sc x)⟩ ⟨by dsimp only; omega, hKn⟩ (by dsimp only; omega) (by repeat (first | exact trivial | refine ⟨rfl, ?_⟩)) (by repeat (first | exact SubL.nil | (apply SubL.cons; (repeat (first | exact At.here | apply At.there))) | exact SubL.refl _ | apply SubL.skip)); done)
          · skip
            have he1 : e = true := by have g8 : (!e) = false := h9; simpa using g8
            rw [he1] at he
            refine skp (h := ?_)
            refine q_seq (h := ?_)
            refine sq (h := ?_)
            refine rg (h := ?_)
            refine WL.y (hy := (by first | exact fa | exact faE)) (h := ?_)
            refine WL.y (hy := (by first | exact ld | exact ldE)) (h := ?_)
            refine nl (h := ?_)
            refine q_seq (h := ?_)
            refine bk (h := ?_)
            refine sq (h := ?_)
            refine rg (h := ?_)
            refine WL.y (hy := eql) (h := ?_)
            refine WL.y (hy := asg) (h := ?_)
            refine nl (h := ?_)
            refine q_seq (h := ?_)
            refine cd (by exact rfl) (fun h10 => ?_) (fun h10 => ?_)
            · skip
              have hk1 : x.kind = 1 := of_decide_eq_true h10
              refine sq (h := ?_)
              refine rgD (by kernel_rfl) [(1000000, .blk b4 45 x.cells), (1000000, .ro P 1 n (encI ps))] (by repeat (first | exact HS.nil | (apply HS.keep; (repeat (first | exact At.here | apply At.there))) | (apply HS.ro; (repeat (first | exact Rds.ro | exact Rds.own | apply Rds.there))))) (h := ?_)
              refine tk 0 (hy := mv) (h := ?_)
              refine tk 1 (hy := addI (hb := by omega)) (h := ?_)
              refine tk 2 (hy := mv) (h := ?_)
              refine tk 3 (hy := lenS) (h := ?_)
              refine tk 4 (hy := lss) (h := ?_)
              refine tk 5 (hy := mv) (h := ?_)
              refine brH (g := 137) (by exact rfl) (fun hb11 => ?_) (fun hb11 => ?_)
              · skip
                have hin : y.i + 1 ≤ n := by have := of_decide_eq_true hb11; omega
                obtain ⟨p, hp⟩ : ∃ p, ps[y.i]? = some p := ⟨_, List.getElem?_eq_getElem (by omega)⟩
                have hpe := encI_at hp
                refine tk 6 (hy := (by first | exact fa | exact faE)) (h := ?_)
                refine tk 7 (hy := (by first | exact ld | exact ldE)) (h := ?_)
                refine tk 8 (hy := eql) (h := ?_)
                refine tk 9 (hy := mv) (h := ?_)
                refine brH (g := 141) (by exact rfl) (fun hb12 => ?_) (fun hb12 => ?_)
                · skip
                  have hs1 : x.side = -1 := of_decide_eq_true hb12
                  refine tkS 10 (h := ?_)
                  refine tkS 11 (h := ?_)
                  refine tkS 12 (h := ?_)
                  refine tkS 13 (h := ?_)
                  refine tkS 14 (h := ?_)
                  refine tkS 15 (h := ?_)
                  refine tkS 16 (h := ?_)
                  refine tk 17 (hy := (by first | exact pkT | exact pkF)) (h := ?_)
                  refine tk 18 (hy := (by first | exact pkT | exact pkF)) (h := ?_)
                  refine dn (h := ?_)
                  refine q_seq (h := ?_)
                  refine cdT (h := ?_)
                  have hKn := hyK.one hk1 he hlp hin (by first | exact .inl hs1 | exact .inr (by rw [hp]; exact congrArg some (of_decide_eq_true (by assumption))))
                  refine rg (h := ?_)
                  refine WL.y (hy := mv) (h := ?_)
                  refine WL.y (hy := mv) (h := ?_)
                  refine WL.y (hy := addI (hb := by omega)) (h := ?_)
                  refine WL.y (hy := ix (A := some ⟨bM, 0, none⟩) (m := n + 1) (hb := by omega)) (h := ?_)
                  refine stE (A := some ⟨bM, 0, none⟩) (k := y.i + 1) (j := 0) (hk := encB_get (List.getElem?_eq_getElem (by have := hyK.len; omega))) (h := ?_)
                  rw [show (encB y.bt).set (y.i + 1) ([Value.bool _].set 0 (.bool true)) = encB (y.bt.set (y.i + 1) true) from encB_set _ _ _]
                  refine nl (h := ?_)
                  refine q_blk_norm (h := ?_)
                  refine q_blk_norm (h := ?_)
                  refine q_seq (h := ?_)
                  refine rg (h := ?_)
                  refine WL.y (hy := mv) (h := ?_)
                  refine WL.y (hy := addI) (h := ?_)
                  refine WL.y (hy := asg) (h := ?_)
                  refine WL.cut (by repeat (first | exact Cut.nil | apply Cut.hit | apply Cut.miss (by exact rfl))) ?_
                  refine nl (h := ?_)
                  first
                    | (refine rn (x := y) ⟨y.i + 1, y.bt⟩ ⟨by dsimp only; omega, hKn⟩ (by dsimp only; omega) (by repeat (first | exact trivial | refine ⟨rfl, ?_⟩)) (by repeat (first | exact SubL.nil | (apply SubL.cons; (repeat (first | exact At.here | apply At.there))) | exact SubL.refl _ | apply SubL.skip)); done)
                    | (refine rn (x := y) ⟨y.i + 1, y.bt.set (y.i + 1) true⟩ ⟨by dsimp only; omega, hKn⟩ (by dsimp only; omega) (by repeat (first | exact trivial | refine ⟨rfl, ?_⟩)) (by repeat (first | exact SubL.nil | (apply SubL.cons; (repeat (first | exact At.here | apply At.there))) | exact SubL.refl _ | apply SubL.skip)); done)
                    | (refine rn (x := y) ⟨y.i + 1, g.2⟩ ⟨by dsimp only; omega, hKn⟩ (by dsimp only; omega) (by repeat (first | exact trivial | refine ⟨rfl, ?_⟩)) (by repeat (first | exact SubL.nil | (apply SubL.cons; (repeat (first | exact At.here | apply At.there))) | exact SubL.refl _ | apply SubL.skip)); done)
                    | (refine rn (x := y) ⟨y.i + 1, y.bt.set y.i (v1 || tstV q.m.sc x)⟩ ⟨by dsimp only; omega, hKn⟩ (by dsimp only; omega) (by repeat (first | exact trivial | refine ⟨rfl, ?_⟩)) (by repeat (first | exact SubL.nil | (apply SubL.cons; (repeat (first | exact At.here | apply At.there))) | exact SubL.refl _ | apply SubL.skip)); done)
                · skip
                  have hs1 : ¬ x.side = -1 := of_decide_eq_false hb12
                  refine tk 10 (hy := mv) (h := ?_)
                  refine tk 11 (hy := mv) (h := ?_)
                  refine tk 12 (hy := ix (A := P) (m := n) (hb := by omega)) (h := ?_)
                  refine tk 13 (hy := ldE (A := P) (k := y.i) (hk := hpe)) (h := ?_)
                  refine tk 14 (hy := (by first | exact fa | exact faE)) (h := ?_)
                  refine tk 15 (hy := (by first | exact ld | exact ldE)) (h := ?_)
                  refine tk 16 (hy := eql) (h := ?_)
                  refine tk 17 (hy := (by first | exact pkT | exact pkF)) (h := ?_)
                  refine tk 18 (hy := (by first | exact pkT | exact pkF)) (h := ?_)
                  refine dn (h := ?_)
                  refine q_seq (h := ?_)
                  refine cd (by exact rfl) (fun h14 => ?_) (fun h14 => ?_)
                  · skip
                    have hKn := hyK.one hk1 he hlp hin (by first | exact .inl hs1 | exact .inr (by rw [hp]; exact congrArg some (of_decide_eq_true (by assumption))))
                    refine rg (h := ?_)
                    refine WL.y (hy := mv) (h := ?_)
                    refine WL.y (hy := mv) (h := ?_)
                    refine WL.y (hy := addI (hb := by omega)) (h := ?_)
                    refine WL.y (hy := ix (A := some ⟨bM, 0, none⟩) (m := n + 1) (hb := by omega)) (h := ?_)
                    refine stE (A := some ⟨bM, 0, none⟩) (k := y.i + 1) (j := 0) (hk := encB_get (List.getElem?_eq_getElem (by have := hyK.len; omega))) (h := ?_)
                    rw [show (encB y.bt).set (y.i + 1) ([Value.bool _].set 0 (.bool true)) = encB (y.bt.set (y.i + 1) true) from encB_set _ _ _]
                    refine nl (h := ?_)
                    refine q_blk_norm (h := ?_)
                    refine q_blk_norm (h := ?_)
                    refine q_seq (h := ?_)
                    refine rg (h := ?_)
                    refine WL.y (hy := mv) (h := ?_)
                    refine WL.y (hy := addI) (h := ?_)
                    refine WL.y (hy := asg) (h := ?_)
                    refine WL.cut (by repeat (first | exact Cut.nil | apply Cut.hit | apply Cut.miss (by exact rfl))) ?_
                    refine nl (h := ?_)
                    first
                      | (refine rn (x := y) ⟨y.i + 1, y.bt⟩ ⟨by dsimp only; omega, hKn⟩ (by dsimp only; omega) (by repeat (first | exact trivial | refine ⟨rfl, ?_⟩)) (by repeat (first | exact SubL.nil | (apply SubL.cons; (repeat (first | exact At.here | apply At.there))) | exact SubL.refl _ | apply SubL.skip)); done)
                      | (refine rn (x := y) ⟨y.i + 1, y.bt.set (y.i + 1) true⟩ ⟨by dsimp only; omega, hKn⟩ (by dsimp only; omega) (by repeat (first | exact trivial | refine ⟨rfl, ?_⟩)) (by repeat (first | exact SubL.nil | (apply SubL.cons; (repeat (first | exact At.here | apply At.there))) | exact SubL.refl _ | apply SubL.skip)); done)
                      | (refine rn (x := y) ⟨y.i + 1, g.2⟩ ⟨by dsimp only; omega, hKn⟩ (by dsimp only; omega) (by repeat (first | exact trivial | refine ⟨rfl, ?_⟩)) (by repeat (first | exact SubL.nil | (apply SubL.cons; (repeat (first | exact At.here | apply At.there))) | exact SubL.refl _ | apply SubL.skip)); done)
                      | (refine rn (x := y) ⟨y.i + 1, y.bt.set y.i (v1 || tstV q.m.sc x)⟩ ⟨by dsimp only; omega, hKn⟩ (by dsimp only; omega) (by repeat (first | exact trivial | refine ⟨rfl, ?_⟩)) (by repeat (first | exact SubL.nil | (apply SubL.cons; (repeat (first | exact At.here | apply At.there))) | exact SubL.refl _ | apply SubL.skip)); done)
                  · skip
                    have hKn := hyK.one_no hk1 hlp (by first | exact fun h9 => hin h9.1 | exact fun h9 => h9.2.elim hs1 (fun h8 => by rw [hp] at h8; have h7 : decide (p = x.side) = false := (by assumption); exact of_decide_eq_false h7 (Option.some.inj h8)))
                    refine skp (h := ?_)
                    refine q_blk_norm (h := ?_)
                    refine q_blk_norm (h := ?_)
                    refine q_seq (h := ?_)
                    refine rg (h := ?_)
                    refine WL.y (hy := mv) (h := ?_)
                    refine WL.y (hy := addI) (h := ?_)
                    refine WL.y (hy := asg) (h := ?_)
                    refine WL.cut (by repeat (first | exact Cut.nil | apply Cut.hit | apply Cut.miss (by exact rfl))) ?_
                    refine nl (h := ?_)
                    first
                      | (refine rn (x := y) ⟨y.i + 1, y.bt⟩ ⟨by dsimp only; omega, hKn⟩ (by dsimp only; omega) (by repeat (first | exact trivial | refine ⟨rfl, ?_⟩)) (by repeat (first | exact SubL.nil | (apply SubL.cons; (repeat (first | exact At.here | apply At.there))) | exact SubL.refl _ | apply SubL.skip)); done)
                      | (refine rn (x := y) ⟨y.i + 1, y.bt.set (y.i + 1) true⟩ ⟨by dsimp only; omega, hKn⟩ (by dsimp only; omega) (by repeat (first | exact trivial | refine ⟨rfl, ?_⟩)) (by repeat (first | exact SubL.nil | (apply SubL.cons; (repeat (first | exact At.here | apply At.there))) | exact SubL.refl _ | apply SubL.skip)); done)
                      | (refine rn (x := y) ⟨y.i + 1, g.2⟩ ⟨by dsimp only; omega, hKn⟩ (by dsimp only; omega) (by repeat (first | exact trivial | refine ⟨rfl, ?_⟩)) (by repeat (first | exact SubL.nil | (apply SubL.cons; (repeat (first | exact At.here | apply At.there))) | exact SubL.refl _ | apply SubL.skip)); done)
                      | (refine rn (x := y) ⟨y.i + 1, y.bt.set y.i (v1 || tstV q.m.sc x)⟩ ⟨by dsimp only; omega, hKn⟩ (by dsimp only; omega) (by repeat (first | exact trivial | refine ⟨rfl, ?_⟩)) (by repeat (first | exact SubL.nil | (apply SubL.cons; (repeat (first | exact At.here | apply At.there))) | exact SubL.refl _ | apply SubL.skip)); done)
              · skip
                have hin : ¬ y.i + 1 ≤ n := by have := of_decide_eq_false hb11; omega
                refine tkS 6 (h := ?_)
                refine tkS 7 (h := ?_)
                refine tkS 8 (h := ?_)
                refine tkS 9 (h := ?_)
                refine tkS 10 (h := ?_)
                refine tkS 11 (h := ?_)
                refine tkS 12 (h := ?_)
                refine tkS 13 (h := ?_)
                refine tkS 14 (h := ?_)
                refine tkS 15 (h := ?_)
                refine tkS 16 (h := ?_)
                refine tkS 17 (h := ?_)
                refine tk 18 (hy := (by first | exact pkT | exact pkF)) (h := ?_)
                refine dn (h := ?_)
                refine q_seq (h := ?_)
                refine cdF (h := ?_)
                have hKn := hyK.one_no hk1 hlp (by first | exact fun h9 => hin h9.1 | exact fun h9 => h9.2.elim hs1 (fun h8 => by rw [hp] at h8; have h7 : decide (p = x.side) = false := (by assumption); exact of_decide_eq_false h7 (Option.some.inj h8)))
                refine skp (h := ?_)
                refine q_blk_norm (h := ?_)
                refine q_blk_norm (h := ?_)
                refine q_seq (h := ?_)
                refine rg (h := ?_)
                refine WL.y (hy := mv) (h := ?_)
                refine WL.y (hy := addI) (h := ?_)
                refine WL.y (hy := asg) (h := ?_)
                refine WL.cut (by repeat (first | exact Cut.nil | apply Cut.hit | apply Cut.miss (by exact rfl))) ?_
                refine nl (h := ?_)
                first
                  | (refine rn (x := y) ⟨y.i + 1, y.bt⟩ ⟨by dsimp only; omega, hKn⟩ (by dsimp only; omega) (by repeat (first | exact trivial | refine ⟨rfl, ?_⟩)) (by repeat (first | exact SubL.nil | (apply SubL.cons; (repeat (first | exact At.here | apply At.there))) | exact SubL.refl _ | apply SubL.skip)); done)
                  | (refine rn (x := y) ⟨y.i + 1, y.bt.set (y.i + 1) true⟩ ⟨by dsimp only; omega, hKn⟩ (by dsimp only; omega) (by repeat (first | exact trivial | refine ⟨rfl, ?_⟩)) (by repeat (first | exact SubL.nil | (apply SubL.cons; (repeat (first | exact At.here | apply At.there))) | exact SubL.refl _ | apply SubL.skip)); done)
                  | (refine rn (x := y) ⟨y.i + 1, g.2⟩ ⟨by dsimp only; omega, hKn⟩ (by dsimp only; omega) (by repeat (first | exact trivial | refine ⟨rfl, ?_⟩)) (by repeat (first | exact SubL.nil | (apply SubL.cons; (repeat (first | exact At.here | apply At.there))) | exact SubL.refl _ | apply SubL.skip)); done)
                  | (refine rn (x := y) ⟨y.i + 1, y.bt.set y.i (v1 || tstV q.m.sc x)⟩ ⟨by dsimp only; omega, hKn⟩ (by dsimp only; omega) (by repeat (first | exact trivial | refine ⟨rfl, ?_⟩)) (by repeat (first | exact SubL.nil | (apply SubL.cons; (repeat (first | exact At.here | apply At.there))) | exact SubL.refl _ | apply SubL.skip)); done)
            · skip
              have hk1 : ¬ x.kind = 1 := of_decide_eq_false h10
              refine sq (h := ?_)
              refine rg (h := ?_)
              refine WL.y (hy := eql) (h := ?_)
              refine WL.y (hy := asg) (h := ?_)
              refine nl (h := ?_)
              refine q_seq (h := ?_)
              refine cd (by exact rfl) (fun h16 => ?_) (fun h16 => ?_)
              · skip
                have hk2 : x.kind = 2 := of_decide_eq_true h16
                have hpb := hxm.2.2.1 hk2
                obtain ⟨a, ha⟩ : ∃ a : Nat, (a : Int) = x.pair.1 := ⟨x.pair.1.toNat, by omega⟩
                refine sq (h := ?_)
                refine rg (h := ?_)
                refine WL.y (hy := (by first | exact fa | exact faE)) (h := ?_)
                refine WL.y (hy := (by first | exact fa | exact faE)) (h := ?_)
                refine WL.y (hy := (by first | exact ld | exact ldE)) (h := ?_)
                refine WL.y (hy := asg) (h := ?_)
                refine WL.cut (by repeat (first | exact Cut.nil | apply Cut.hit | apply Cut.miss (by exact rfl))) ?_
                refine nl (h := ?_)
                refine q_seq (h := ?_)
                refine bk (h := ?_)
                refine lp (X := Nat × List Bool) (I := fun g => PI x y.bt n y.i g.1 g.2) (le := fun g => [(2, .slice P n cp), (3, .pointer (some ⟨b0, 0, none⟩)), (8, .slice zm.A (n + 1) zm.c), (10, .slice v.A (n + 1) v.c), (11, .int .i64 v.j), (12, .pointer (some ⟨b4, 0, none⟩)), (13, .slice (some ⟨bM, 0, none⟩) (n + 1) (n + 1)), (14, .int .i64 y.i), (15, .int .i64 g.1)]) (Le := fun g => [.own (some ⟨bM, 0, none⟩) (n + 1) 4 1 (n + 1) (encB g.2), .blk b4 45 x.cells, .own v.A v.c 4 1 (n + 1) (encB v.bs), .own zm.A zm.c 89 12 (n + 1) (encM zm.ms), manyE true zm.U, .blk b0 26 (cardC f cf A na c), .ro P 1 n (encI ps), .ro A 4 na (encN xs)]) (μ := fun g => n + 1 - g.1) (a, y.bt) (PI.start hyK.len ha) (by repeat (first | exact trivial | refine ⟨rfl, ?_⟩ | refine ⟨by rw [ha]; rfl, ?_⟩)) (by repeat (first | exact SubL.nil | (apply SubL.cons; (repeat (first | exact At.here | apply At.there))) | exact SubL.refl _ | apply SubL.skip)) (fun g hg => ?_)
                have hgk := hg.kb
                refine sq (h := ?_)
                refine sq (h := ?_)
                refine rg (h := ?_)
                refine WL.y (hy := mv) (h := ?_)
                refine WL.y (hy := (by first | exact fa | exact faE)) (h := ?_)
                refine WL.y (hy := (by first | exact fa | exact faE)) (h := ?_)
                refine WL.y (hy := (by first | exact ld | exact ldE)) (h := ?_)
                refine WL.y (hy := leq) (h := ?_)
                refine WL.y (hy := mv) (h := ?_)
                apply brAnd 7 165 172 (by exact rfl)
                · intro hb17
                  refine un (h := ?_)
                  refine WL.y (hy := mv) (h := ?_)
                  refine un (h := ?_)
                  refine WL.y (hy := mv) (h := ?_)
                  refine un (h := ?_)
                  refine WL.y (hy := addI (hb := by omega)) (h := ?_)
                  refine un (h := ?_)
                  refine WL.y (hy := mv) (h := ?_)
                  refine un (h := ?_)
                  refine WL.y (hy := lenS) (h := ?_)
                  refine un (h := ?_)
                  refine WL.y (hy := lss) (h := ?_)
                  refine WL.y (hy := (by first | exact pkT | exact pkF)) (h := ?_)
                  exact mg (by repeat (first | exact trivial | refine ⟨rfl, ?_⟩ | refine ⟨by rw [hb17]; rfl, ?_⟩)) (by repeat (first | exact SubL.nil | (apply SubL.cons; (repeat (first | exact At.here | apply At.there))) | exact SubL.refl _ | apply SubL.skip))
                · intro hb17
                  repeat (first | refine un (h := ?_) | refine sk (h := ?_) | refine WL.y (hy := pkF) (h := ?_) | refine WL.y (hy := pkT) (h := ?_))
                  exact mg (by repeat (first | exact trivial | refine ⟨rfl, ?_⟩ | refine ⟨by rw [hb17]; rfl, ?_⟩)) (by repeat (first | exact SubL.nil | (apply SubL.cons; (repeat (first | exact At.here | apply At.there))) | exact SubL.refl _ | apply SubL.skip))
                refine nl (h := ?_)
                refine q_seq (h := ?_)
                refine cd (by exact rfl) (fun h18 => ?_) (fun h18 => ?_)
                · skip
                  have hk9 : (g.1 : Int) ≤ x.pair.2 ∧ y.i + g.1 < n + 1 := by
                    have g9 := h18
                    rw [Bool.and_eq_true, decide_eq_true_eq, decide_eq_true_eq] at g9
                    omega
                  have hgn := hg.next hk9.1 hk9.2
                  refine skp (h := ?_)
                  refine q_seq (h := ?_)
                  refine sq (h := ?_)
                  refine bk (h := ?_)
                  refine rg (h := ?_)
                  refine WL.y (hy := mv) (h := ?_)
                  refine WL.y (hy := mv) (h := ?_)
                  refine WL.y (hy := mv) (h := ?_)
                  refine WL.y (hy := addI (hb := by omega)) (h := ?_)
                  refine WL.y (hy := ix (A := some ⟨bM, 0, none⟩) (m := n + 1) (hb := by omega)) (h := ?_)
                  refine stE (A := some ⟨bM, 0, none⟩) (k := y.i + g.1) (j := 0) (hk := encB_get (List.getElem?_eq_getElem (by have := hg.len; omega))) (h := ?_)
                  rw [show (encB g.2).set (y.i + g.1) ([Value.bool _].set 0 (.bool true)) = encB (g.2.set (y.i + g.1) true) from encB_set _ _ _]
                  refine nl (h := ?_)
                  refine q_blk_norm (h := ?_)
                  refine q_seq (h := ?_)
                  refine rg (h := ?_)
                  refine WL.y (hy := mv) (h := ?_)
                  refine WL.y (hy := addI) (h := ?_)
                  refine WL.y (hy := asg) (h := ?_)
                  refine WL.cut (by repeat (first | exact Cut.nil | apply Cut.hit | apply Cut.miss (by exact rfl))) ?_
                  refine nl (h := ?_)
                  refine rn (x := g) (g.1 + 1, g.2.set (y.i + g.1) true) hgn (by dsimp only; omega) (by repeat (first | exact trivial | refine ⟨rfl, ?_⟩)) (by repeat (first | exact SubL.nil | (apply SubL.cons; (repeat (first | exact At.here | apply At.there))) | exact SubL.refl _ | apply SubL.skip))
                · skip
                  have hk9 : ¬ ((g.1 : Int) ≤ x.pair.2 ∧ y.i + g.1 < n + 1) := fun g8 => by
                    have g9 := h18
                    rw [Bool.and_eq_false_iff, decide_eq_false_iff_not, decide_eq_false_iff_not] at g9
                    omega
                  have hKn := hg.done hk2 ⟨hpb.2.1, hpb.2.2.1⟩ (by omega) hk9 he hlp hyK
                  refine et (h := ?_)
                  refine q_then_exit (h := ?_)
                  refine q_then_exit (h := ?_)
                  refine q_blk_hit (h := ?_)
                  refine q_blk_norm (h := ?_)
                  refine q_blk_norm (h := ?_)
                  refine q_seq (h := ?_)
                  refine rg (h := ?_)
                  refine WL.y (hy := mv) (h := ?_)
                  refine WL.y (hy := addI) (h := ?_)
                  refine WL.y (hy := asg) (h := ?_)
                  refine WL.cut (by repeat (first | exact Cut.nil | apply Cut.hit | apply Cut.miss (by exact rfl))) ?_
                  refine nl (h := ?_)
                  first
                    | (refine rn (x := y) ⟨y.i + 1, y.bt⟩ ⟨by dsimp only; omega, hKn⟩ (by dsimp only; omega) (by repeat (first | exact trivial | refine ⟨rfl, ?_⟩)) (by repeat (first | exact SubL.nil | (apply SubL.cons; (repeat (first | exact At.here | apply At.there))) | exact SubL.refl _ | apply SubL.skip)); done)
                    | (refine rn (x := y) ⟨y.i + 1, y.bt.set (y.i + 1) true⟩ ⟨by dsimp only; omega, hKn⟩ (by dsimp only; omega) (by repeat (first | exact trivial | refine ⟨rfl, ?_⟩)) (by repeat (first | exact SubL.nil | (apply SubL.cons; (repeat (first | exact At.here | apply At.there))) | exact SubL.refl _ | apply SubL.skip)); done)
                    | (refine rn (x := y) ⟨y.i + 1, g.2⟩ ⟨by dsimp only; omega, hKn⟩ (by dsimp only; omega) (by repeat (first | exact trivial | refine ⟨rfl, ?_⟩)) (by repeat (first | exact SubL.nil | (apply SubL.cons; (repeat (first | exact At.here | apply At.there))) | exact SubL.refl _ | apply SubL.skip)); done)
                    | (refine rn (x := y) ⟨y.i + 1, y.bt.set y.i (v1 || tstV q.m.sc x)⟩ ⟨by dsimp only; omega, hKn⟩ (by dsimp only; omega) (by repeat (first | exact trivial | refine ⟨rfl, ?_⟩)) (by repeat (first | exact SubL.nil | (apply SubL.cons; (repeat (first | exact At.here | apply At.there))) | exact SubL.refl _ | apply SubL.skip)); done)
              · skip
                have hk2 : ¬ x.kind = 2 := of_decide_eq_false h16
                obtain ⟨q, hq⟩ : ∃ q, zm.ms[y.i]? = some q := ⟨_, List.getElem?_eq_getElem (by omega)⟩
                have hqe := encM_at hq
                obtain ⟨hqp, hqs, _⟩ := hzm.ok y.i q hq
                obtain ⟨hqf, hq1, hqi⟩ := playTo_inv hf hqp
                have hqb := playTo_bd hf hfs (by omega) hqp
                have hql : q.m.st.length ≤ 1000000 := by have := hqb.s; omega
                obtain ⟨v1, hv1⟩ : ∃ v1, y.bt[y.i]? = some v1 := ⟨_, List.getElem?_eq_getElem (by have := hyK.len; omega)⟩
                have hv1e := encB_get hv1
                have hKn := hyK.test hk1 hk2 he (by omega) hv1 ((tst_hold (x := x) hqf (playTo_rch hf hqp) (by rw [hq1]; omega) (by have := hxm.1; omega)).trans (by rw [(play_spot hf hqp).1]))
                refine sq (h := ?_)
                refine rg (h := ?_)
                refine WL.y (hy := mv) (h := ?_)
                refine WL.y (hy := mv) (h := ?_)
                refine WL.y (hy := ix (A := zm.A) (m := n + 1) (hb := by omega)) (h := ?_)
                refine WL.y (hy := (by first | exact fa | exact faE)) (h := ?_)
                refine WL.y (hy := ldEA (A := zm.A) (k := y.i) (hk := hqe)) (h := ?_)
                refine al (h := fun b5 => ?_)
                first | refine stA (h := ?_) | refine stEA (h := ?_)
                refine nl (h := ?_)
                refine q_seq (h := ?_)
                refine sq (h := ?_)
                refine WC.getRow hqs (by repeat (first | exact At.here | apply At.there)) ?_
                refine rgD (by kernel_rfl) [(8, .blk b5 54 [.slice q.sA q.m.st.length q.sc, .int .i64 q.m.g.1, .int .i64 q.m.g.2, .int .i64 q.m.p.1, .int .i64 q.m.p.2, .int .i64 0, .int .i64 q.m.ends, .int .i64 q.m.balls, .int .i64 q.m.winner]), (1000000, .own zm.A zm.c 89 12 (n + 1) (encM zm.ms)), (1000000, .blk b0 26 (cardC f cf A na c))] (by repeat (first | exact HS.nil | (apply HS.keep; (repeat (first | exact At.here | apply At.there))) | (apply HS.ro; (repeat (first | exact Rds.ro | exact Rds.own | apply Rds.there))))) (h := ?_)
                refine tk 0 (hy := (by first | exact fa | exact faE)) (h := ?_)
                refine tk 1 (hy := (by first | exact ldA | exact ldEA)) (h := ?_)
                refine tk 2 (hy := mv) (h := ?_)
                refine tk 3 (hy := mv) (h := ?_)
                refine tk 4 (hy := ix (A := zm.A) (m := n + 1) (hb := by omega)) (h := ?_)
                refine tk 5 (hy := ldEA (A := zm.A) (k := y.i) (hk := hqe)) (h := ?_)
                refine one 6 (h := ?_)
                refine cl0 (hc := fun w hS => C_ref1_Next f q.m hqf q.sA q.sc q.gA q.gc hf (by rw [hq1]; omega) hqi hqb w (hS.get (by repeat (first | exact Rds.ro | exact Rds.own | apply Rds.there)))) (h := ?_)
                refine nx (h := ?_)
                refine tk 7 (hy := (by first | exact fa | exact faE)) (h := ?_)
                refine one 8 (h := ?_)
                first | refine st (h := ?_) | refine stE (h := ?_)
                refine nx (h := ?_)
                refine dn (h := ?_)
                refine q_seq (h := ?_)
                refine rg (h := ?_)
                refine WL.y (hy := mv) (h := ?_)
                refine WL.y (hy := mv) (h := ?_)
                refine WL.y (hy := mv) (h := ?_)
                refine WL.y (hy := mv) (h := ?_)
                refine WL.y (hy := ix (A := some ⟨bM, 0, none⟩) (m := n + 1) (hb := by omega)) (h := ?_)
                refine WL.y (hy := ldE (A := some ⟨bM, 0, none⟩) (k := y.i) (hk := hv1e)) (h := ?_)
                refine WL.y (hy := mv) (h := ?_)
                apply brOr 4 124 128 (by exact rfl)
                · intro hb19
                  refine un (h := ?_)
                  refine WL.y (hy := (by first | exact ldA | exact ldEA)) (h := ?_)
                  refine un (h := ?_)
                  refine WL.y (hy := (by first | exact ldA | exact ldEA)) (h := ?_)
                  refine un (h := ?_)
                  refine cl0 (hc := fun w hS => C_ref3_True q.m.sc q.sA q.sc x w (hS.get (by repeat (first | exact Rds.ro | exact Rds.own | apply Rds.there))) hql) (h := ?_)
                  refine WL.y (hy := (by first | exact pkT | exact pkF)) (h := ?_)
                  exact mg (by repeat (first | exact trivial | refine ⟨rfl, ?_⟩ | refine ⟨by rw [hb19]; rfl, ?_⟩)) (by repeat (first | exact SubL.nil | (apply SubL.cons; (repeat (first | exact At.here | apply At.there))) | exact SubL.refl _ | apply SubL.skip))
                · intro hb19
                  repeat (first | refine un (h := ?_) | refine sk (h := ?_) | refine WL.y (hy := pkF) (h := ?_) | refine WL.y (hy := pkT) (h := ?_))
                  exact mg (by repeat (first | exact trivial | refine ⟨rfl, ?_⟩ | refine ⟨by rw [hb19]; rfl, ?_⟩)) (by repeat (first | exact SubL.nil | (apply SubL.cons; (repeat (first | exact At.here | apply At.there))) | exact SubL.refl _ | apply SubL.skip))
                refine WL.y (hy := ix (A := some ⟨bM, 0, none⟩) (m := n + 1) (hb := by omega)) (h := ?_)
                refine stE (A := some ⟨bM, 0, none⟩) (k := y.i) (j := 0) (hk := hv1e) (h := ?_)
                rw [show (encB y.bt).set y.i ([Value.bool v1].set 0 (.bool (v1 || tstV q.m.sc x))) = encB (y.bt.set y.i (v1 || tstV q.m.sc x)) from encB_set _ _ _]
                refine nl (h := ?_)
                refine q_blk_norm (h := ?_)
                refine q_blk_norm (h := ?_)
                refine q_seq (h := ?_)
                refine rg (h := ?_)
                refine WL.y (hy := mv) (h := ?_)
                refine WL.y (hy := addI) (h := ?_)
                refine WL.y (hy := asg) (h := ?_)
                refine WL.cut (by repeat (first | exact Cut.nil | apply Cut.hit | apply Cut.miss (by exact rfl))) ?_
                refine nl (h := ?_)
                first
                  | (refine rn (x := y) ⟨y.i + 1, y.bt⟩ ⟨by dsimp only; omega, hKn⟩ (by dsimp only; omega) (by repeat (first | exact trivial | refine ⟨rfl, ?_⟩)) (by repeat (first | exact SubL.nil | (apply SubL.cons; (repeat (first | exact At.here | apply At.there))) | exact SubL.refl _ | apply SubL.skip)); done)
                  | (refine rn (x := y) ⟨y.i + 1, y.bt.set (y.i + 1) true⟩ ⟨by dsimp only; omega, hKn⟩ (by dsimp only; omega) (by repeat (first | exact trivial | refine ⟨rfl, ?_⟩)) (by repeat (first | exact SubL.nil | (apply SubL.cons; (repeat (first | exact At.here | apply At.there))) | exact SubL.refl _ | apply SubL.skip)); done)
                  | (refine rn (x := y) ⟨y.i + 1, g.2⟩ ⟨by dsimp only; omega, hKn⟩ (by dsimp only; omega) (by repeat (first | exact trivial | refine ⟨rfl, ?_⟩)) (by repeat (first | exact SubL.nil | (apply SubL.cons; (repeat (first | exact At.here | apply At.there))) | exact SubL.refl _ | apply SubL.skip)); done)
                  | (refine rn (x := y) ⟨y.i + 1, y.bt.set y.i (v1 || tstV q.m.sc x)⟩ ⟨by dsimp only; omega, hKn⟩ (by dsimp only; omega) (by repeat (first | exact trivial | refine ⟨rfl, ?_⟩)) (by repeat (first | exact SubL.nil | (apply SubL.cons; (repeat (first | exact At.here | apply At.there))) | exact SubL.refl _ | apply SubL.skip)); done)
        · skip
          have hin1 : y.i = n + 1 := by have := of_decide_eq_false h8; omega
          have hvn : ∀ t, y.bt[t]? = some true ↔ Fit f first ps xs (v.j + 1) t := fun t => by
            rw [hyK.ok t]
            constructor
            · rintro ⟨m, _, hm, hh⟩
              exact ⟨x, m, hx, (hvb m).1 hm, hh⟩
            · rintro ⟨x', m, hx', hm, hh⟩
              rw [hx] at hx'; cases hx'
              exact ⟨m, by have := fit_le hm; omega, (hvb m).2 hm, hh⟩
          refine et (h := ?_)
          refine q_then_exit (h := ?_)
          refine q_then_exit (h := ?_)
          refine q_blk_hit (h := ?_)
          refine q_seq (h := ?_)
          refine rg (h := ?_)
          refine WL.y (hy := mv) (h := ?_)
          refine WL.y (hy := asg) (h := ?_)
          refine WL.cut (by repeat (first | exact Cut.nil | apply Cut.hit | apply Cut.miss (by exact rfl))) ?_
          refine nl (h := ?_)
          refine q_blk_norm (h := ?_)
          refine q_seq (h := ?_)
          refine rg (h := ?_)
          refine WL.y (hy := mv) (h := ?_)
          refine WL.y (hy := addI) (h := ?_)
          refine WL.y (hy := asg) (h := ?_)
          refine WL.cut (by repeat (first | exact Cut.nil | apply Cut.hit | apply Cut.miss (by exact rfl))) ?_
          refine nl (h := ?_)
          refine rn (x := v) ⟨v.j + 1, y.bt, some ⟨bM, 0, none⟩, n + 1⟩ ⟨by dsimp only; omega, hyK.len, hvn⟩ (by dsimp only; omega) (by repeat (first | exact trivial | refine ⟨rfl, ?_⟩)) (by repeat (first | exact SubL.nil | (apply SubL.cons; (repeat (first | exact At.here | apply At.there))) | exact SubL.refl _ | apply SubL.skip))
      · skip
        have hjn : v.j = na := by have := of_decide_eq_false h7; omega
        rw [hjn] at hvb
        obtain ⟨r, hr⟩ : ∃ r, v.bs[n]? = some r := ⟨_, List.getElem?_eq_getElem (by omega)⟩
        have hre := encB_get hr
        refine et (h := ?_)
        refine q_then_exit (h := ?_)
        refine q_then_exit (h := ?_)
        refine q_blk_hit (h := ?_)
        refine q_seq (h := ?_)
        refine sq (h := ?_)
        refine rg (h := ?_)
        refine WL.y (hy := mv) (h := ?_)
        refine WL.y (hy := mv) (h := ?_)
        refine WL.y (hy := lenS) (h := ?_)
        refine WL.y (hy := ix (A := v.A) (m := n + 1) (hb := by omega)) (h := ?_)
        refine WL.y (hy := ldE (A := v.A) (k := n) (hk := hre)) (h := ?_)
        refine WL.y (hy := asg) (h := ?_)
        refine nl (h := ?_)
        refine q_seq (h := ?_)
        refine rtn (h := ?_)
        refine q_ret (hR := ?_)
        exact fun w hS => ⟨r, ⟨fun h9 => ⟨hfs, hfc2, by omega, ⟨zm.l.m, by rw [hlp]; exact hzp⟩, by rw [hlx, hlp]; exact (hvb n).1 (h9 ▸ hr)⟩, fun hM => by
          have h9 := (hvb n).2 (by have := hM.fit; rwa [hlx, hlp] at this)
          rw [hr] at h9; exact Option.some.inj h9⟩, rfl, hS.sub (by repeat (first | exact SubL.nil | (apply SubL.cons; (repeat (first | exact At.here | apply At.there))) | exact SubL.refl _ | apply SubL.skip))⟩
end Go.Proofs.YtpejgebcmhmpaaaGreat

namespace Go.Proofs.YtpejgebcmhmpaaaGreat
open Go Go.RowKit

noncomputable def mokB (f : Fmt) (cf first : Int) (xs : List Nt) (ps : List Int) : Bool := @decide (MOk f cf first xs ps) (Classical.propDecidable _)
theorem mokB_iff {f : Fmt} {cf first : Int} {xs : List Nt} {ps : List Int} : mokB f cf first xs ps = true ↔ MOk f cf first xs ps := @decide_eq_true_iff _ (Classical.propDecidable _)
theorem C_ref3_IsMatchB (f : Fmt) (cf : Int) (xs : List Nt) (A : Option Addr) (na c : Nat) (first : Int) (ps : List Int) (P : Option Addr) (n cp : Nat) (w : World) (h : Rd w A 4 na (encN xs)) (h' : Rd w P 1 n (encI ps)) (hn : n ≤ 9223372036854775807) (hx0 : na ≤ 60) (hck : chkC f cf xs = 0) :
    C0 Tryz.prog 20 [.agg (cardC f cf A na c).toArray, .int .i64 first, .slice P n cp] w (.bool (mokB f cf first xs ps)) := by
  refine ⟨Calls.mono (C_ref3_IsMatch f cf xs A na c first ps P n cp w h h' hn hx0 hck).out fun e w' ⟨b, hb, he, hs⟩ => ⟨?_, hs⟩⟩
  rw [he]
  congr 2
  rw [Bool.eq_iff_iff, hb, mokB_iff]
structure TrM (f : Fmt) (cf first : Int) (xs : List Nt) (ps : List Int) (m : MS) : Prop where
  o : playO f first ps = some m
  k : spotOf m ∈ keyC (crowdC f cf xs)
  lo : (cntC f cf xs).1 ≤ ps.length
  hi : (ps.length : Int) ≤ (cntC f cf xs).2
  f : m.f = f
  fs : m.first = first
  r : Rch m
theorem MOk.play {f : Fmt} {cf first : Int} {xs : List Nt} {ps : List Int} (h : MOk f cf first xs ps) (hR : Rdy f cf xs) : ∃ m, TrM f cf first xs ps m := by
  obtain ⟨m, hm⟩ := h.pl
  obtain ⟨h1, h2⟩ := play_can hR.ok hm
  have h3 := h.fs
  obtain ⟨e, he, e1, e2, e3⟩ := true_match h1 (beg_in h.fs h.cf) h.fit
  obtain ⟨_, _, s3⟩ := span_le (crowdC f cf xs) (600, 0)
  have s4 := s3 e he
  have hc0 := (chk_facts hR.c).1
  have hp : preE f first ps.length = 0 := by
    have hs : sideBad first = false := by rcases h3 with rfl | rfl <;> rfl
    unfold preE
    rw [hc0, hs, decide_eq_false (show ¬ (600 : Int) < ps.length by have := h.n; omega)]; rfl
  refine ⟨m, by rw [playO, hp]; exact hm, by rw [h2, ← e1]; exact List.mem_map.2 ⟨e, he, rfl⟩, ?_, ?_, (playTo_inv hR.ok hm).1, (playTo_inv hR.ok hm).2.1, playTo_rch hR.ok hm⟩
  · show (spanC _ _).1 ≤ _; omega
  · show _ ≤ (spanC _ _).2; omega
theorem fnd_succR {zs : List BA} {b : Brd} {j : Nat} {y : BA} (h : zs[j]? = some y) : fndX zs b (j + 1) = (fndX zs b j || decide (y.b = b)) := by
  rw [fnd_succ h]
  congr 1
  exact decide_eq_decide.2 ⟨fun e => e.symm, fun e => e.symm⟩
end Go.Proofs.YtpejgebcmhmpaaaGreat

namespace Go.Proofs.YtpejgebcmhmpaaaGreat
open Go Go.RowKit

structure ShtOk (f : Fmt) (cf : Int) (xs : List Nt) (s : ShR) : Prop where
  no : posE f cf xs ≠ 0 → s.first = 0 ∧ s.r = []
  yes : posE f cf xs = 0 → ∃ u, u ∈ keyC (crowdC f cf xs) ∧ Row_ f cf xs xs.length u s.first s.r
  len : s.r.length ≤ 500
theorem C_card_ShowT (f : Fmt) (cf : Int) (xs : List Nt) (A : Option Addr) (n c : Nat) (w : World) (h : Rd w A 4 n (encN xs)) (hn : n ≤ 9223372036854775807) (hsm : chkC f cf xs = 0 → mostS xs ≤ 400) :
    CR Tryz.prog 19 [.agg (cardC f cf A n c).toArray] w (ShtOk f cf xs) (fun s => .tuple #[.int .i64 s.first, .slice s.A s.r.length s.c, .int .i64 (posE f cf xs)]) (fun s => [.own s.A s.c 3 1 s.r.length (encI s.r)]) := by
  refine ⟨Calls.mono (C_card_Show f cf xs A n c w h hn hsm).out fun e w' ⟨o, ho, he, hs⟩ => ?_⟩
  cases o with
  | none => exact ⟨⟨0, [], none, 0⟩, ⟨fun _ => ⟨rfl, rfl⟩, fun h0 => absurd h0 ho, Nat.zero_le _⟩, he, hs.nilOwn _ _⟩
  | some s =>
    obtain ⟨h1, h2, u, h3, h4, h5⟩ := ho
    exact ⟨s, ⟨fun h0 => absurd h1 h0, fun _ => ⟨u, h3, h5⟩, h4⟩, he, hs⟩
theorem row_ok {f : Fmt} {cf first : Int} {xs : List Nt} {u : Spot} {r : List Int} (hf : f.Ok) (h : Row_ f cf xs xs.length u first r) (hl : r.length ≤ 500) : MOk f cf first xs r := by
  obtain ⟨m, hm, _⟩ := can_play hf h.can r.length (Nat.le_refl _)
  exact ⟨h.fs, h.cf, by omega, ⟨m, hm⟩, h.fit⟩
theorem Rdy.sureE {f : Fmt} {cf : Int} {xs : List Nt} (h : Rdy f cf xs) {x : Nt} (hx : mkV x = true) (h3 : 3 ≤ x.kind) : sureE f cf xs x = posE f cf xs ∧ sureV f cf xs x = (decide (posE f cf xs = 0) && sureB f cf xs x) := by
  have e : Go.Proofs.YtpejgebcmhmpaaaGreat.sureE f cf xs x = posE f cf xs := by
    unfold Go.Proofs.YtpejgebcmhmpaaaGreat.sureE
    rw [decide_eq_true h.c, cond_true, decide_eq_false (show ¬ x.kind < 3 by omega), hx]; rfl
  exact ⟨e, by unfold sureV; rw [e]⟩
theorem TrM.st {f : Fmt} {cf first : Int} {xs : List Nt} {ps : List Int} {m : MS} (h : TrM f cf first xs ps m) (hM : MOk f cf first xs ps) (hf : f.Ok) : m.st.length ≤ 1000000 := by
  obtain ⟨m9, hm9⟩ := hM.pl
  have e9 : some m = some m9 := by
    have g9 := h.o
    unfold playO at g9
    rw [← hm9]
    cases hq : !decide (preE f first ps.length = 0)
    · rw [hq] at g9; exact g9.symm
    · rw [hq] at g9; cases g9
  cases e9
  have := (playTo_bd hf hM.fs (by have := hM.n; omega) hm9).s
  have := hM.n
  omega
theorem Rdy.more {f : Fmt} {cf : Int} {xs : List Nt} (h : Rdy f cf xs) {x : Nt} (hx : mkV x = true) (h3 : 3 ≤ x.kind) : chkC f cf (xs ++ [x]) = 0 ∧ mostS (xs ++ [x]) ≤ 20 ∧ (crowdC f cf (xs ++ [x])).length ≤ 4194304 := by
  obtain ⟨c1, c2, c3, c4, c5, c6⟩ := chk_facts h.c
  have hmk : ∀ y ∈ xs ++ [x], mkV y = true := fun y hy => by
    rcases List.mem_append.1 hy with hy | hy
    · exact h.mks y hy
    · rw [List.mem_singleton.1 hy]; exact hx
  have e1 : misS (xs ++ [x]) = misS xs := by
    unfold misS
    rw [List.map_append, List.sum_append]
    show _ + (misN x + 0) = _
    unfold misN
    rw [decide_eq_false (show ¬ x.kind = 2 by omega)]
    show _ + ((0 : Int) + 0) = _
    omega
  have e2 : mostS (xs ++ [x]) = mostS xs := by
    unfold mostS
    rw [List.map_append, List.sum_append]
    show _ + (mostN x + 0) = _
    unfold mostN
    rw [if_neg (by omega), if_neg (by omega)]
    omega
  have hl : (xs ++ [x]).length = xs.length + 1 := by rw [List.length_append]; rfl
  have h1 := h.n
  have h2 := h.m
  have h4 := h.mis
  obtain ⟨g1, g2, g3⟩ := exp_mis hmk
  have g4 := crowd_len f cf (xs ++ [x])
  have he : expS (xs ++ [x]) ≤ 21 := by omega
  have hp : 2 ^ expS (xs ++ [x]) ≤ 2 ^ 21 := Nat.pow_le_pow_right (by omega) he
  exact ⟨chk_of c1 c3 (by omega) hmk (by omega), by omega, by omega⟩
end Go.Proofs.YtpejgebcmhmpaaaGreat

namespace Go.Proofs.YtpejgebcmhmpaaaGreat
open Go Go.RowKit

theorem less_pr (a b : Pr) : (decide (a.1 < b.1) || (decide (a.1 = b.1) && decide (a.2 < b.2))) = decide (cmpP a b < 0) := by
  rw [Bool.eq_iff_iff, Bool.or_eq_true, Bool.and_eq_true, decide_eq_true_eq, decide_eq_true_eq, decide_eq_true_eq, decide_eq_true_eq]
  unfold cmpP orI
  split <;> omega
theorem C_ref3_lessPair (a b : Pr) (w : World) : C0 Tryz.prog 55 [.agg #[.int .i64 a.1, .int .i64 a.2], .agg #[.int .i64 b.1, .int .i64 b.2]] w (.bool (decide (cmpP a b < 0))) := by
  refine ⟨en Tryz.func55 Tryz.ntmps55 (St.init w) (h := fun F => ?_)⟩
  refine sq (h := ?_)
  refine rg (h := ?_)
  refine bxA (h := fun b0 => ?_)
  refine bxA (h := fun b1 => ?_)
  refine WL.y (hy := asg) (h := ?_)
  refine nl (h := ?_)
  refine q_seq (h := ?_)
  refine sq (h := ?_)
  refine rg (h := ?_)
  refine WL.y (hy := (by first | exact fa | exact faE)) (h := ?_)
  refine WL.y (hy := (by first | exact ld | exact ldE)) (h := ?_)
  refine WL.y (hy := (by first | exact fa | exact faE)) (h := ?_)
  refine WL.y (hy := (by first | exact ld | exact ldE)) (h := ?_)
  refine WL.y (hy := lss) (h := ?_)
  refine WL.y (hy := mv) (h := ?_)
  apply brOr 13 10 23 (by exact rfl)
  · intro hb0
    refine un (h := ?_)
    refine WL.y (hy := (by first | exact fa | exact faE)) (h := ?_)
    refine un (h := ?_)
    refine WL.y (hy := (by first | exact ld | exact ldE)) (h := ?_)
    refine un (h := ?_)
    refine WL.y (hy := (by first | exact fa | exact faE)) (h := ?_)
    refine un (h := ?_)
    refine WL.y (hy := (by first | exact ld | exact ldE)) (h := ?_)
    refine un (h := ?_)
    refine WL.y (hy := eql) (h := ?_)
    refine un (h := ?_)
    refine WL.y (hy := mv) (h := ?_)
    apply brAnd 6 16 22 (by exact rfl)
    · intro hb1
      refine un (h := ?_)
      refine WL.y (hy := (by first | exact fa | exact faE)) (h := ?_)
      refine un (h := ?_)
      refine WL.y (hy := (by first | exact ld | exact ldE)) (h := ?_)
      refine un (h := ?_)
      refine WL.y (hy := (by first | exact fa | exact faE)) (h := ?_)
      refine un (h := ?_)
      refine WL.y (hy := (by first | exact ld | exact ldE)) (h := ?_)
      refine un (h := ?_)
      refine WL.y (hy := lss) (h := ?_)
      refine un (h := ?_)
      refine WL.y (hy := (by first | exact pkT | exact pkF)) (h := ?_)
      exact mg (by repeat (first | exact trivial | refine ⟨rfl, ?_⟩ | refine ⟨by rw [hb1]; rfl, ?_⟩ | refine ⟨by rw [hb0]; rfl, ?_⟩)) (by repeat (first | exact SubL.nil | (apply SubL.cons; (repeat (first | exact At.here | apply At.there))) | exact SubL.refl _ | apply SubL.skip))
    · intro hb1
      repeat (first | refine un (h := ?_) | refine sk (h := ?_) | refine WL.y (hy := pkF) (h := ?_) | refine WL.y (hy := pkT) (h := ?_))
      exact mg (by repeat (first | exact trivial | refine ⟨rfl, ?_⟩ | refine ⟨by rw [hb1]; rfl, ?_⟩ | refine ⟨by rw [hb0]; rfl, ?_⟩)) (by repeat (first | exact SubL.nil | (apply SubL.cons; (repeat (first | exact At.here | apply At.there))) | exact SubL.refl _ | apply SubL.skip))
    refine WL.y (hy := (by first | exact pkT | exact pkF)) (h := ?_)
    exact mg (by repeat (first | exact trivial | refine ⟨rfl, ?_⟩ | refine ⟨by rw [hb0]; rfl, ?_⟩)) (by repeat (first | exact SubL.nil | (apply SubL.cons; (repeat (first | exact At.here | apply At.there))) | exact SubL.refl _ | apply SubL.skip))
  · intro hb0
    repeat (first | refine un (h := ?_) | refine sk (h := ?_) | refine WL.y (hy := pkF) (h := ?_) | refine WL.y (hy := pkT) (h := ?_))
    exact mg (by repeat (first | exact trivial | refine ⟨rfl, ?_⟩ | refine ⟨by rw [hb0]; rfl, ?_⟩)) (by repeat (first | exact SubL.nil | (apply SubL.cons; (repeat (first | exact At.here | apply At.there))) | exact SubL.refl _ | apply SubL.skip))
  refine WL.y (hy := asg) (h := ?_)
  refine nl (h := ?_)
  refine q_seq (h := ?_)
  refine rtn (h := ?_)
  refine q_ret (hR := ?_)
  rw [← less_pr]
  exact fun w hS => ⟨rfl, hS.sub (by repeat (first | exact SubL.nil | (apply SubL.cons; (repeat (first | exact At.here | apply At.there))) | exact SubL.refl _ | apply SubL.skip))⟩
theorem cmpL_at : ∀ {a b : List Pr} {k : Nat}, a.take k = b.take k → cmpL a b = cmpL (a.drop k) (b.drop k)
  | a, b, 0, _ => rfl
  | [], [], k + 1, _ => rfl
  | [], _ :: _, k + 1, h => by cases h
  | _ :: _, [], k + 1, h => by cases h
  | x :: a, y :: b, k + 1, h => by
    rw [List.take_succ_cons, List.take_succ_cons] at h
    obtain ⟨rfl, h2⟩ := List.cons.inj h
    rw [List.drop_succ_cons, List.drop_succ_cons, ← cmpL_at h2, cmpL, orI, if_neg (by rw [cmpP_zero.2 rfl]; omega)]
theorem cmpL_diff {a b : List Pr} {k : Nat} {p q : Pr} (h : a.take k = b.take k) (hp : a[k]? = some p) (hq : b[k]? = some q) (hne : p ≠ q) : cmpL a b = cmpP p q := by
  obtain ⟨h1, e1⟩ := List.getElem?_eq_some_iff.1 hp
  obtain ⟨h2, e2⟩ := List.getElem?_eq_some_iff.1 hq
  rw [cmpL_at h, List.drop_eq_getElem_cons h1, List.drop_eq_getElem_cons h2, e1, e2, cmpL, orI, if_pos (fun e => hne (cmpP_zero.1 e))]
theorem cmpL_end {a b : List Pr} {k : Nat} (h : a.take k = b.take k) (hk : k = a.length ∨ k = b.length) (hne : a.length ≠ b.length) (hka : k ≤ a.length) (hkb : k ≤ b.length) : (cmpL a b < 0 ↔ a.length < b.length) ∧ cmpL a b ≠ 0 := by
  refine ⟨?_, fun e => hne (congrArg List.length (cmpL_zero.1 e))⟩
  rw [cmpL_at h]
  rcases hk with rfl | rfl
  · rw [List.drop_length]
    cases hd : b.drop a.length with
    | nil => have := congrArg List.length hd; rw [List.length_drop] at this; simp at this; omega
    | cons y l => exact ⟨fun _ => by omega, fun _ => by show (-1 : Int) < 0; decide⟩
  · rw [List.drop_length]
    cases hd : a.drop b.length with
    | nil => have := congrArg List.length hd; rw [List.length_drop] at this; simp at this; omega
    | cons y l => exact ⟨fun (h9 : (1 : Int) < 0) => absurd h9 (by decide), fun h9 => by omega⟩
theorem orI_of {a b : Int} (h : a ≠ 0) : orI a b = a := if_pos h
theorem orI_of0 {a b : Int} (h : a = 0) : orI a b = b := if_neg (fun g => g h)
set_option maxRecDepth 100000 in
theorem C_ref3_Less (a b : Brd) (A B : Option Addr) (n c m d : Nat) (w : World) (h : Rd w A 2 n (encP a.st)) (h' : Rd w B 2 m (encP b.st)) (hn : n ≤ 9223372036854775807) (hm : m ≤ 9223372036854775807) :
    C0 Tryz.prog 24 [a.val A n c, b.val B m d] w (.bool (decide (cmpB a b < 0))) := by
  have hla : a.st.length = n := by have := h.len; simpa [encP] using this
  have hlb : b.st.length = m := by have := h'.len; simpa [encP] using this
  refine ⟨en Tryz.func24 Tryz.ntmps24 (((St.init w).share (e := .ro A 2 n (encP a.st)) h rfl rfl rfl).share (e := .ro B 2 m (encP b.st)) h' rfl rfl rfl) (h := fun F => ?_)⟩
  refine sq (h := ?_)
  refine rg (h := ?_)
  refine bxA (h := fun b0 => ?_)
  refine bxA (h := fun b1 => ?_)
  refine WL.y (hy := asg) (h := ?_)
  refine nl (h := ?_)
  refine q_seq (h := ?_)
  refine sq (h := ?_)
  refine sq (h := ?_)
  refine rg (h := ?_)
  refine WL.y (hy := asg) (h := ?_)
  refine WL.cut (by repeat (first | exact Cut.nil | apply Cut.hit | apply Cut.miss (by exact rfl))) ?_
  refine nl (h := ?_)
  refine q_seq (h := ?_)
  refine bk (h := ?_)
  refine lp (X := Nat) (I := fun k => (k ≤ n ∧ k ≤ m) ∧ a.st.take k = b.st.take k) (le := fun k => [(2, .pointer (some ⟨b0, 0, none⟩)), (3, .pointer (some ⟨b1, 0, none⟩)), (5, .int .i64 k)]) (Le := fun _ => [.blk b0 52 (a.cells A n c), .blk b1 52 (b.cells B m d), .ro A 2 n (encP a.st), .ro B 2 m (encP b.st)]) (μ := fun k => n - k) 0 ⟨⟨Nat.zero_le _, Nat.zero_le _⟩, rfl⟩ (by repeat (first | exact trivial | refine ⟨rfl, ?_⟩)) (by repeat (first | exact SubL.nil | (apply SubL.cons; (repeat (first | exact At.here | apply At.there))) | exact SubL.refl _ | apply SubL.skip)) (fun k hk0 => ?_)
  obtain ⟨hk, htk⟩ := hk0
  refine sq (h := ?_)
  refine sq (h := ?_)
  refine rg (h := ?_)
  refine WL.y (hy := mv) (h := ?_)
  refine WL.y (hy := (by first | exact fa | exact faE)) (h := ?_)
  refine WL.y (hy := (by first | exact ld | exact ldE)) (h := ?_)
  refine WL.y (hy := lenS) (h := ?_)
  refine WL.y (hy := lss) (h := ?_)
  refine WL.y (hy := mv) (h := ?_)
  apply brAnd 6 11 17 (by exact rfl)
  · intro hb0
    refine un (h := ?_)
    refine WL.y (hy := mv) (h := ?_)
    refine un (h := ?_)
    refine WL.y (hy := (by first | exact fa | exact faE)) (h := ?_)
    refine un (h := ?_)
    refine WL.y (hy := (by first | exact ld | exact ldE)) (h := ?_)
    refine un (h := ?_)
    refine WL.y (hy := lenS) (h := ?_)
    refine un (h := ?_)
    refine WL.y (hy := lss) (h := ?_)
    refine WL.y (hy := (by first | exact pkT | exact pkF)) (h := ?_)
    exact mg (by repeat (first | exact trivial | refine ⟨rfl, ?_⟩ | refine ⟨by rw [hb0]; rfl, ?_⟩)) (by repeat (first | exact SubL.nil | (apply SubL.cons; (repeat (first | exact At.here | apply At.there))) | exact SubL.refl _ | apply SubL.skip))
  · intro hb0
    repeat (first | refine un (h := ?_) | refine sk (h := ?_) | refine WL.y (hy := pkF) (h := ?_) | refine WL.y (hy := pkT) (h := ?_))
    exact mg (by repeat (first | exact trivial | refine ⟨rfl, ?_⟩ | refine ⟨by rw [hb0]; rfl, ?_⟩)) (by repeat (first | exact SubL.nil | (apply SubL.cons; (repeat (first | exact At.here | apply At.there))) | exact SubL.refl _ | apply SubL.skip))
  refine nl (h := ?_)
  refine q_seq (h := ?_)
  refine cd (by exact rfl) (fun h1 => ?_) (fun h1 => ?_)
  · skip
    have hk2 : (k : Int) < n ∧ (k : Int) < m := by simpa using h1
    have hkn : k < n := by omega
    have hkm : k < m := by omega
    obtain ⟨p, hp⟩ : ∃ p, a.st[k]? = some p := ⟨_, List.getElem?_eq_getElem (by omega)⟩
    obtain ⟨q, hq⟩ : ∃ q, b.st[k]? = some q := ⟨_, List.getElem?_eq_getElem (by omega)⟩
    have hpe := encP_at hp
    have hqe := encP_at hq
    refine skp (h := ?_)
    refine q_seq (h := ?_)
    refine sq (h := ?_)
    refine bk (h := ?_)
    refine sq (h := ?_)
    refine rgD (by kernel_rfl) [(1000000, .blk b0 52 (a.cells A n c)), (1000000, .blk b1 52 (b.cells B m d)), (1000000, .ro A 2 n (encP a.st)), (1000000, .ro B 2 m (encP b.st))] (by repeat (first | exact HS.nil | (apply HS.keep; (repeat (first | exact At.here | apply At.there))) | (apply HS.ro; (repeat (first | exact Rds.ro | exact Rds.own | apply Rds.there))))) (h := ?_)
    refine tk 0 (hy := (by first | exact fa | exact faE)) (h := ?_)
    refine tk 1 (hy := (by first | exact ld | exact ldE)) (h := ?_)
    refine tk 2 (hy := mv) (h := ?_)
    refine tk 3 (hy := ix (A := A) (m := n)) (h := ?_)
    refine tk 4 (hy := ldEA (A := A) (hk := hpe)) (h := ?_)
    refine tk 5 (hy := (by first | exact fa | exact faE)) (h := ?_)
    refine tk 6 (hy := (by first | exact ld | exact ldE)) (h := ?_)
    refine tk 7 (hy := mv) (h := ?_)
    refine tk 8 (hy := ix (A := B) (m := m)) (h := ?_)
    refine tk 9 (hy := ldEA (A := B) (hk := hqe)) (h := ?_)
    refine tk 10 (hy := neqT) (h := ?_)
    refine dn (h := ?_)
    refine q_seq (h := ?_)
    refine cd (by exact rfl) (fun h2 => ?_) (fun h2 => ?_)
    · skip
      have hne : p ≠ q := fun e => by
        have h9 := h2
        rw [decP, e] at h9
        simp at h9
      have hcp : cmpP p q ≠ 0 := fun e => hne (cmpP_zero.1 e)
      have hE : decide (cmpB a b < 0) = decide (cmpP p q < 0) := by rw [cmpB, cmpL_diff htk hp hq hne, orI_of hcp, orI_of hcp]
      refine sq (h := ?_)
      refine rgD (by kernel_rfl) [(1000000, .blk b0 52 (a.cells A n c)), (1000000, .blk b1 52 (b.cells B m d)), (1000000, .ro A 2 n (encP a.st)), (1000000, .ro B 2 m (encP b.st))] (by repeat (first | exact HS.nil | (apply HS.keep; (repeat (first | exact At.here | apply At.there))) | (apply HS.ro; (repeat (first | exact Rds.ro | exact Rds.own | apply Rds.there))))) (h := ?_)
      refine tk 0 (hy := (by first | exact fa | exact faE)) (h := ?_)
      refine tk 1 (hy := (by first | exact ld | exact ldE)) (h := ?_)
      refine tk 2 (hy := mv) (h := ?_)
      refine tk 3 (hy := ix (A := A) (m := n)) (h := ?_)
      refine tk 4 (hy := ldEA (A := A) (hk := hpe)) (h := ?_)
      refine tk 5 (hy := (by first | exact fa | exact faE)) (h := ?_)
      refine tk 6 (hy := (by first | exact ld | exact ldE)) (h := ?_)
      refine tk 7 (hy := mv) (h := ?_)
      refine tk 8 (hy := ix (A := B) (m := m)) (h := ?_)
      refine tk 9 (hy := ldEA (A := B) (hk := hqe)) (h := ?_)
      refine one 10 (h := ?_)
      refine cl0 (hc := fun w hS => C_ref3_lessPair p q w) (h := ?_)
      refine nx (h := ?_)
      refine tk 11 (hy := asg) (h := ?_)
      refine dn (h := ?_)
      refine q_seq (h := ?_)
      refine rtn (h := ?_)
      refine q_blk_ret (h := ?_)
      refine q_then_ret (h := ?_)
      refine q_then_ret (h := ?_)
      refine q_blk_ret (h := ?_)
      refine q_then_ret (h := ?_)
      refine q_ret (hR := ?_)
      rw [hE]
      exact fun w hS => ⟨rfl, hS.sub (by repeat (first | exact SubL.nil | (apply SubL.cons; (repeat (first | exact At.here | apply At.there))) | exact SubL.refl _ | apply SubL.skip))⟩
    · skip
      have hpq : p = q := by
        have h9 := h2
        rw [decP] at h9
        simpa using h9
      refine skp (h := ?_)
      refine q_blk_norm (h := ?_)
      refine q_seq (h := ?_)
      refine rg (h := ?_)
      refine WL.y (hy := mv) (h := ?_)
      refine WL.y (hy := addI) (h := ?_)
      refine WL.y (hy := asg) (h := ?_)
      refine WL.cut (by repeat (first | exact Cut.nil | apply Cut.hit | apply Cut.miss (by exact rfl))) ?_
      refine nl (h := ?_)
      refine rn (x := k) (k + 1) ⟨⟨by omega, by omega⟩, by rw [List.take_add_one, List.take_add_one, hp, hq, htk, hpq]⟩ (by omega) (by repeat (first | exact trivial | refine ⟨rfl, ?_⟩)) (by repeat (first | exact SubL.nil | (apply SubL.cons; (repeat (first | exact At.here | apply At.there))) | exact SubL.refl _ | apply SubL.skip))
  · skip
    have hk2 : ¬ ((k : Int) < n ∧ (k : Int) < m) := by simpa using h1
    refine et (h := ?_)
    refine q_then_exit (h := ?_)
    refine q_then_exit (h := ?_)
    refine q_blk_hit (h := ?_)
    refine q_seq (h := ?_)
    refine sq (h := ?_)
    refine sq (h := ?_)
    refine rg (h := ?_)
    refine WL.y (hy := (by first | exact fa | exact faE)) (h := ?_)
    refine WL.y (hy := (by first | exact ld | exact ldE)) (h := ?_)
    refine WL.y (hy := lenS) (h := ?_)
    refine WL.y (hy := (by first | exact fa | exact faE)) (h := ?_)
    refine WL.y (hy := (by first | exact ld | exact ldE)) (h := ?_)
    refine WL.y (hy := lenS) (h := ?_)
    refine WL.y (hy := neq) (h := ?_)
    refine nl (h := ?_)
    refine q_seq (h := ?_)
    refine cd (by exact rfl) (fun h3 => ?_) (fun h3 => ?_)
    · skip
      have hlm : ¬ n = m := by have h9 := h3; simp only [Bool.not_eq_true', decide_eq_false_iff_not] at h9; omega
      have hen := cmpL_end htk (by omega) (by omega) (by omega) (by omega)
      have hE : decide (cmpB a b < 0) = decide ((n : Int) < m) := by
        rw [cmpB, orI_of hen.2, orI_of hen.2]
        exact decide_eq_decide.2 (hen.1.trans (by rw [hla, hlb]; omega))
      refine sq (h := ?_)
      refine rg (h := ?_)
      refine WL.y (hy := (by first | exact fa | exact faE)) (h := ?_)
      refine WL.y (hy := (by first | exact ld | exact ldE)) (h := ?_)
      refine WL.y (hy := lenS) (h := ?_)
      refine WL.y (hy := (by first | exact fa | exact faE)) (h := ?_)
      refine WL.y (hy := (by first | exact ld | exact ldE)) (h := ?_)
      refine WL.y (hy := lenS) (h := ?_)
      refine WL.y (hy := lss) (h := ?_)
      refine WL.y (hy := asg) (h := ?_)
      refine nl (h := ?_)
      refine q_seq (h := ?_)
      refine rtn (h := ?_)
      refine q_then_ret (h := ?_)
      refine q_ret (hR := ?_)
      rw [hE]
      exact fun w hS => ⟨rfl, hS.sub (by repeat (first | exact SubL.nil | (apply SubL.cons; (repeat (first | exact At.here | apply At.there))) | exact SubL.refl _ | apply SubL.skip))⟩
    · skip
      have hlm : n = m := by have h9 := h3; simp only [Bool.not_eq_false', decide_eq_true_eq] at h9; omega
      have hst : a.st = b.st := by
        have h9 := htk
        rw [List.take_of_length_le (by omega), List.take_of_length_le (by omega)] at h9; exact h9
      refine skp (h := ?_)
      refine q_seq (h := ?_)
      refine sq (h := ?_)
      refine sq (h := ?_)
      refine rg (h := ?_)
      refine WL.y (hy := (by first | exact fa | exact faE)) (h := ?_)
      refine WL.y (hy := (by first | exact ldA | exact ldEA)) (h := ?_)
      refine WL.y (hy := (by first | exact fa | exact faE)) (h := ?_)
      refine WL.y (hy := (by first | exact ldA | exact ldEA)) (h := ?_)
      refine WL.y (hy := neqT) (h := ?_)
      refine nl (h := ?_)
      refine q_seq (h := ?_)
      refine cd (by exact rfl) (fun h4 => ?_) (fun h4 => ?_)
      · skip
        have hne : a.g ≠ b.g := fun e => by
          have h9 := h4
          rw [decP, e] at h9
          simp at h9
        have hE : decide (cmpB a b < 0) = decide (cmpP a.g b.g < 0) := by
          have hcp : cmpP a.g b.g ≠ 0 := fun e => hne (cmpP_zero.1 e)
          rw [cmpB, orI_of0 (cmpL_zero.2 hst), orI_of hcp]
        refine sq (h := ?_)
        refine rg (h := ?_)
        refine WL.y (hy := (by first | exact fa | exact faE)) (h := ?_)
        refine WL.y (hy := (by first | exact ldA | exact ldEA)) (h := ?_)
        refine WL.y (hy := (by first | exact fa | exact faE)) (h := ?_)
        refine WL.y (hy := (by first | exact ldA | exact ldEA)) (h := ?_)
        refine cl0 (hc := fun w hS => C_ref3_lessPair a.g b.g w) (h := ?_)
        refine WL.y (hy := asg) (h := ?_)
        refine nl (h := ?_)
        refine q_seq (h := ?_)
        refine rtn (h := ?_)
        refine q_then_ret (h := ?_)
        refine q_ret (hR := ?_)
        rw [hE]
        exact fun w hS => ⟨rfl, hS.sub (by repeat (first | exact SubL.nil | (apply SubL.cons; (repeat (first | exact At.here | apply At.there))) | exact SubL.refl _ | apply SubL.skip))⟩
      · skip
        have hg : a.g = b.g := by
          have h9 := h4
          rw [decP] at h9
          simpa using h9
        have hE : decide (cmpB a b < 0) = decide (cmpP a.p b.p < 0) := by rw [cmpB, orI_of0 (cmpL_zero.2 hst), orI_of0 (cmpP_zero.2 hg)]
        refine skp (h := ?_)
        refine q_seq (h := ?_)
        refine sq (h := ?_)
        refine rg (h := ?_)
        refine WL.y (hy := (by first | exact fa | exact faE)) (h := ?_)
        refine WL.y (hy := (by first | exact ldA | exact ldEA)) (h := ?_)
        refine WL.y (hy := (by first | exact fa | exact faE)) (h := ?_)
        refine WL.y (hy := (by first | exact ldA | exact ldEA)) (h := ?_)
        refine cl0 (hc := fun w hS => C_ref3_lessPair a.p b.p w) (h := ?_)
        refine WL.y (hy := asg) (h := ?_)
        refine nl (h := ?_)
        refine q_seq (h := ?_)
        refine rtn (h := ?_)
        refine q_ret (hR := ?_)
        rw [hE]
        exact fun w hS => ⟨rfl, hS.sub (by repeat (first | exact SubL.nil | (apply SubL.cons; (repeat (first | exact At.here | apply At.there))) | exact SubL.refl _ | apply SubL.skip))⟩
end Go.Proofs.YtpejgebcmhmpaaaGreat

namespace Go.Proofs.YtpejgebcmhmpaaaGreat
open Go Go.RowKit

theorem fit_snoc {f : Fmt} {first : Int} {ps : List Int} {xs : List Nt} {x : Nt} : ∀ {j n : Nat}, j ≤ xs.length → (Fit f first ps (xs ++ [x]) j n ↔ Fit f first ps xs j n)
  | 0, n, _ => Iff.rfl
  | j + 1, n, h => by
    show (∃ y m, (xs ++ [x])[j]? = some y ∧ Fit f first ps (xs ++ [x]) j m ∧ hitV f first ps y m n) ↔ ∃ y m, xs[j]? = some y ∧ Fit f first ps xs j m ∧ hitV f first ps y m n
    rw [List.getElem?_append_left (by omega)]
    exact ⟨fun ⟨y, m, a, b, c⟩ => ⟨y, m, a, (fit_snoc (by omega)).1 b, c⟩, fun ⟨y, m, a, b, c⟩ => ⟨y, m, a, (fit_snoc (by omega)).2 b, c⟩⟩
structure TcI (f : Fmt) (cf first : Int) (ps : List Int) (k : Nat) (ys : List Nt) (ex : Bool) : Prop where
  len : ys.length ≤ 2 * k
  fit : Fit f first ps ys ys.length k
  ex : ex = true → ∀ s ∈ keyC (crowdC f cf ys), s = spS f first ps k
section
variable {f : Fmt} {cf first : Int} {ps : List Int} {k : Nat} {ys : List Nt} {ex : Bool}
theorem TcI.start (h : ex = true → cf = first) (hf : first = 0 ∨ first = 1) : TcI f cf first ps 0 [] ex := by
  refine ⟨Nat.le_refl _, rfl, fun he s hs => ?_⟩
  have e := h he
  subst e
  obtain ⟨b, hb, hc, rfl⟩ := beg_cases hs
  have : cf = b := by omega
  subst this; rfl
theorem crowd_snoc {xs : List Nt} {x : Nt} {s : Spot} : s ∈ keyC (crowdC f cf (xs ++ [x])) ↔ ∃ t, t ∈ keyC (crowdC f cf xs) ∧ Rel f x t s := by
  unfold crowdC
  rw [List.foldl_append]
  exact after_mem
theorem TcI.add (h : TcI f cf first ps k ys ex) {x : Nt} {n : Nat} (hh : hitV f first ps x k n) (hl : ys.length + 1 ≤ 2 * n) {ey : Bool} (hx : ey = true → ex = true ∧ ∀ u, Rel f x (spS f first ps k) u → u = spS f first ps n) : TcI f cf first ps n (ys ++ [x]) ey := by
  refine ⟨by rw [List.length_append]; exact hl, ?_, fun he s hs => ?_⟩
  · rw [List.length_append]
    exact ⟨x, k, by rw [List.getElem?_append_right (Nat.le_refl _), Nat.sub_self]; rfl, (fit_snoc (Nat.le_refl _)).2 h.fit, hh⟩
  · obtain ⟨h1, h2⟩ := hx he
    obtain ⟨t, ht, hr⟩ := crowd_snoc.1 hs
    rw [h.ex h1 t ht] at hr
    exact h2 s hr
theorem TcI.point (h : TcI f cf first ps k ys ex) (hk : k < ps.length) (hc : CanP f first ps) {p : Int} (hp : ps[k]? = some p) : TcI f cf first ps (k + 1) (ys ++ [⟨1, p, (0, 0)⟩]) ex := by
  have hl := h.len
  refine h.add ?_ (by omega) fun he => ⟨he, fun u hu => ?_⟩
  · unfold hitV; rw [if_pos rfl]; exact ⟨rfl, by omega, .inr hp⟩
  · unfold Rel at hu
    rw [if_pos rfl] at hu
    obtain ⟨q, hq, hs, hn⟩ := hu
    have hpq : p = q := by
      rcases hs with hs | hs
      · have := (hc k p hp).1
        have hs : p = -1 := hs
        omega
      · exact hs
    subst hpq
    rw [can_nxt hc hp] at hn
    exact (Option.some.inj hn).symm
theorem TcI.some_ (h : TcI f cf first ps k ys ex) (hk : k < ps.length) : TcI f cf first ps (k + 1) (ys ++ [⟨1, -1, (0, 0)⟩]) false := by
  have hl := h.len
  refine h.add ?_ (by omega) fun he => by cases he
  unfold hitV; rw [if_pos rfl]; exact ⟨rfl, by omega, .inl rfl⟩
theorem TcI.miss (h : TcI f cf first ps k ys ex) (hk : k < ps.length) : TcI f cf first ps (k + 1) (ys ++ [⟨2, 0, (0, 1)⟩]) false := by
  have hl := h.len
  refine h.add ?_ (by omega) fun he => by cases he
  unfold hitV
  rw [if_neg (by decide), if_pos rfl]
  exact ⟨⟨by show (k : Int) + 0 ≤ _; omega, by show _ ≤ (k : Int) + 1; omega⟩, by omega, by omega⟩
theorem TcI.call (h : TcI f cf first ps k ys ex) (hl : ys.length + 1 ≤ 2 * k) {x : Nt} (h3 : 3 ≤ x.kind) (hh : holdS f x (spS f first ps k) = true) : TcI f cf first ps k (ys ++ [x]) ex := by
  refine h.add ?_ hl fun he => ⟨he, fun u hu => ?_⟩
  · unfold hitV; rw [if_neg (by omega), if_neg (by omega)]; exact ⟨rfl, hh⟩
  · unfold Rel at hu
    rw [if_neg (by omega), if_neg (by omega)] at hu
    exact hu.1.symm
end
end Go.Proofs.YtpejgebcmhmpaaaGreat

namespace Go.Proofs.YtpejgebcmhmpaaaGreat
open Go Go.RowKit

theorem shown_more {f : Fmt} {cf : Int} {xs : List Nt} {q : BDR} {x : BA} (hR : Rdy f cf xs) (hq : BtOk f cf xs q) (h0 : posE f cf xs = 0) (hx : x ∈ q.zs) (hp : (0 ≤ x.b.p.1 ∧ x.b.p.1 ≤ 40) ∧ 0 ≤ x.b.p.2 ∧ x.b.p.2 ≤ 40) : mkV ⟨3, 0, x.b.p⟩ = true ∧ allB f cf (xs ++ [⟨3, 0, x.b.p⟩]) = -1 := by
  have hm : mkV ⟨3, 0, x.b.p⟩ = true := (mkV_iff _).2 (.inr (.inr (.inl ⟨.inl rfl, rfl, hp.1, hp.2⟩)))
  refine ⟨hm, ?_⟩
  have h1 : x.b ∈ boardsC (keyC (crowdC f cf xs)) := by rw [← hq.yes h0]; exact List.mem_map.2 ⟨x, hx, rfl⟩
  obtain ⟨s, hs, he⟩ := ((boards_facts _).2 _).1 h1
  have h2 : s ∈ keyC (crowdC f cf (xs ++ [⟨3, 0, x.b.p⟩])) := by
    refine crowd_snoc.2 ⟨s, hs, ?_⟩
    unfold Rel
    rw [if_neg (show ¬ (3 : Int) = 1 by decide), if_neg (show ¬ (3 : Int) = 2 by decide)]
    refine ⟨rfl, ?_⟩
    show decide (s.p = x.b.p) = true
    rw [← he]; exact decide_eq_true rfl
  have h3 : badC f cf (xs ++ [⟨3, 0, x.b.p⟩]) = -1 := (bad_none hR.cf).2 fun e => by rw [e] at h2; cases h2
  rw [allB, (hR.more hm (show (3 : Int) ≤ 3 by decide)).1, h3]; rfl
theorem srt_next {f : Fmt} {cf : Int} {xs : List Nt} {q : BDR} (hq : BtOk f cf xs q) (h0 : posE f cf xs = 0) {i : Nat} {x y : BA} (hx : q.zs[i]? = some x) (hy : q.zs[i + 1]? = some y) : decide (cmpB x.b y.b < 0) = true := by
  have h1 := (boards_facts (keyC (crowdC f cf xs))).1
  rw [← hq.yes h0] at h1
  have h2 := List.pairwise_iff_getElem.1 h1
  obtain ⟨a1, a2⟩ := List.getElem?_eq_some_iff.1 hx
  obtain ⟨b1, b2⟩ := List.getElem?_eq_some_iff.1 hy
  have h3 := h2 i (i + 1) (by rw [List.length_map]; exact a1) (by rw [List.length_map]; exact b1) (Nat.lt_succ_self _)
  rw [List.getElem_map, List.getElem_map, a2, b2] at h3
  exact decide_eq_true h3
set_option maxRecDepth 100000 in
theorem K_CardShown (f : Fmt) (cf : Int) (xs : List Nt) (A : Option Addr) (n c : Nat) (w : World) (h : Rd w A 4 n (encN xs)) (hn : n ≤ 9223372036854775807) : C0 Tryz.prog 5 [.agg (cardC f cf A n c).toArray] w (.bool true) := by
  have hlen : xs.length = n := by have := h.len; rwa [encN_len] at this
  refine ⟨en Tryz.func5 Tryz.ntmps5 ((St.init w).share (e := .ro A 4 n (encN xs)) h rfl rfl rfl) (h := fun F => ?_)⟩
  refine sq (h := ?_)
  refine rg (h := ?_)
  refine bxA (h := fun b0 => ?_)
  refine WL.y (hy := asg) (h := ?_)
  refine nl (h := ?_)
  refine q_seq (h := ?_)
  refine sq (h := ?_)
  refine sq (h := ?_)
  refine rg (h := ?_)
  refine WL.y (hy := (by first | exact ldA | exact ldEA)) (h := ?_)
  refine cl0 (hc := fun w hS => C_law3_ready f cf xs A n c w (hS.get (by repeat (first | exact Rds.ro | exact Rds.own | apply Rds.there))) hn) (h := ?_)
  refine WL.y (hy := notB) (h := ?_)
  refine nl (h := ?_)
  refine q_seq (h := ?_)
  refine cd (by exact rfl) (fun h0 => ?_) (fun h0 => ?_)
  · skip
    refine sq (h := ?_)
    refine rg (h := ?_)
    refine cl0 (hc := fun w hS => C_law3_works w) (h := ?_)
    refine WL.y (hy := asg) (h := ?_)
    refine nl (h := ?_)
    refine q_seq (h := ?_)
    refine rtn (h := ?_)
    refine q_then_ret (h := ?_)
    refine q_ret (hR := ?_)
    exact fun w hS => ⟨rfl, hS.sub (by repeat (first | exact SubL.nil | (apply SubL.cons; (repeat (first | exact At.here | apply At.there))) | exact SubL.refl _ | apply SubL.skip))⟩
  · skip
    have hR := rdy_facts (show rdyC f cf xs = true by simpa using h0)
    have hn12 := hR.n
    have hpp : posE f cf xs = 0 ∨ posE f cf xs = 3 := by
      rw [hR.pos]
      by_cases e : badC f cf xs = -1
      · rw [if_pos e]; exact .inl rfl
      · rw [if_neg e]; exact .inr rfl
    refine skp (h := ?_)
    refine q_seq (h := ?_)
    refine sq (h := ?_)
    refine rg (h := ?_)
    refine WL.y (hy := (by first | exact ldA | exact ldEA)) (h := ?_)
    refine cl (hc := fun w hS => C_card_ShowT f cf xs A n c w (hS.get (by repeat (first | exact Rds.ro | exact Rds.own | apply Rds.there))) hn (fun _ => by have := hR.m; omega)) (h := fun s hs => ?_)
    refine WL.y (hy := mv) (h := ?_)
    refine WL.y (hy := ex) (h := ?_)
    refine WL.y (hy := ex) (h := ?_)
    refine WL.y (hy := ex) (h := ?_)
    refine WL.y (hy := asg) (h := ?_)
    refine WL.y (hy := asg) (h := ?_)
    refine WL.y (hy := asg) (h := ?_)
    refine nl (h := ?_)
    refine q_seq (h := ?_)
    refine sq (h := ?_)
    refine rg (h := ?_)
    refine WL.y (hy := (by first | exact ldA | exact ldEA)) (h := ?_)
    refine cl (hc := fun w hS => C_card_BoardsT f cf xs A n c w (hS.get (by repeat (first | exact Rds.ro | exact Rds.own | apply Rds.there))) hn (fun _ => by have := hR.m; omega) hR.b) (h := fun qa hqa => ?_)
    have hqal := hqa.len
    refine WL.y (hy := mv) (h := ?_)
    refine WL.y (hy := ex) (h := ?_)
    refine WL.y (hy := ex) (h := ?_)
    refine WL.y (hy := asg) (h := ?_)
    refine WL.y (hy := asg) (h := ?_)
    refine nl (h := ?_)
    refine q_seq (h := ?_)
    refine sq (h := ?_)
    refine sq (h := ?_)
    refine rg (h := ?_)
    refine WL.y (hy := mv) (h := ?_)
    refine WL.y (hy := mv) (h := ?_)
    refine WL.y (hy := neq) (h := ?_)
    refine WL.y (hy := mv) (h := ?_)
    apply brOr 7 33 40 (by exact rfl)
    · intro hb1
      refine un (h := ?_)
      refine WL.y (hy := mv) (h := ?_)
      refine un (h := ?_)
      refine WL.y (hy := neq) (h := ?_)
      refine un (h := ?_)
      refine WL.y (hy := mv) (h := ?_)
      apply brAnd 3 36 39 (by exact rfl)
      · intro hb2
        refine un (h := ?_)
        refine WL.y (hy := mv) (h := ?_)
        refine un (h := ?_)
        refine WL.y (hy := neq) (h := ?_)
        refine un (h := ?_)
        refine WL.y (hy := (by first | exact pkT | exact pkF)) (h := ?_)
        exact mg (by repeat (first | exact trivial | refine ⟨rfl, ?_⟩ | refine ⟨by rw [hb2]; rfl, ?_⟩ | refine ⟨by rw [hb1]; rfl, ?_⟩)) (by repeat (first | exact SubL.nil | (apply SubL.cons; (repeat (first | exact At.here | apply At.there))) | exact SubL.refl _ | apply SubL.skip))
      · intro hb2
        repeat (first | refine un (h := ?_) | refine sk (h := ?_) | refine WL.y (hy := pkF) (h := ?_) | refine WL.y (hy := pkT) (h := ?_))
        exact mg (by repeat (first | exact trivial | refine ⟨rfl, ?_⟩ | refine ⟨by rw [hb2]; rfl, ?_⟩ | refine ⟨by rw [hb1]; rfl, ?_⟩)) (by repeat (first | exact SubL.nil | (apply SubL.cons; (repeat (first | exact At.here | apply At.there))) | exact SubL.refl _ | apply SubL.skip))
      refine WL.y (hy := (by first | exact pkT | exact pkF)) (h := ?_)
      exact mg (by repeat (first | exact trivial | refine ⟨rfl, ?_⟩ | refine ⟨by rw [hb1]; rfl, ?_⟩)) (by repeat (first | exact SubL.nil | (apply SubL.cons; (repeat (first | exact At.here | apply At.there))) | exact SubL.refl _ | apply SubL.skip))
    · intro hb1
      repeat (first | refine un (h := ?_) | refine sk (h := ?_) | refine WL.y (hy := pkF) (h := ?_) | refine WL.y (hy := pkT) (h := ?_))
      exact mg (by repeat (first | exact trivial | refine ⟨rfl, ?_⟩ | refine ⟨by rw [hb1]; rfl, ?_⟩)) (by repeat (first | exact SubL.nil | (apply SubL.cons; (repeat (first | exact At.here | apply At.there))) | exact SubL.refl _ | apply SubL.skip))
    refine nl (h := ?_)
    refine q_seq (h := ?_)
    refine cd (by exact rfl) (fun h3 => ?_) (fun h3 => ?_)
    · skip
      have h0 := h3
      rcases hpp with e | e <;> rw [e] at h0 <;> cases h0
    · skip
      refine skp (h := ?_)
      refine q_seq (h := ?_)
      refine sq (h := ?_)
      refine sq (h := ?_)
      refine rg (h := ?_)
      refine WL.y (hy := mv) (h := ?_)
      refine WL.y (hy := neq) (h := ?_)
      refine nl (h := ?_)
      refine q_seq (h := ?_)
      refine cd (by exact rfl) (fun h4 => ?_) (fun h4 => ?_)
      · skip
        refine sq (h := ?_)
        refine rg (h := ?_)
        refine cl0 (hc := fun w hS => C_law3_works w) (h := ?_)
        refine WL.y (hy := asg) (h := ?_)
        refine nl (h := ?_)
        refine q_seq (h := ?_)
        refine rtn (h := ?_)
        refine q_then_ret (h := ?_)
        refine q_ret (hR := ?_)
        exact fun w hS => ⟨rfl, hS.sub (by repeat (first | exact SubL.nil | (apply SubL.cons; (repeat (first | exact At.here | apply At.there))) | exact SubL.refl _ | apply SubL.skip))⟩
      · skip
        have hp0 : posE f cf xs = 0 := by simpa using h4
        obtain ⟨su, hsu, hsr⟩ := hs.yes hp0
        have hM := row_ok hR.ok hsr hs.len
        obtain ⟨m, hT⟩ := hM.play hR
        have hTl := hT.st hM hR.ok
        refine skp (h := ?_)
        refine q_seq (h := ?_)
        refine sq (h := ?_)
        refine rg (h := ?_)
        refine WL.y (hy := (by first | exact fa | exact faE)) (h := ?_)
        refine WL.y (hy := (by first | exact ldA | exact ldEA)) (h := ?_)
        refine WL.y (hy := mv) (h := ?_)
        refine WL.y (hy := mv) (h := ?_)
        refine cl (hc := fun w hS => C_score_Play f s.first s.r s.A s.r.length s.c w (hS.get (by repeat (first | exact Rds.ro | exact Rds.own | apply Rds.there))) (by have := hs.len; omega)) (h := fun u _ => ?_)
        rw [playE_some hT.o, hT.o]
        refine WL.y (hy := mv) (h := ?_)
        refine WL.y (hy := ex) (h := ?_)
        refine WL.y (hy := ex) (h := ?_)
        refine al (h := fun b1 => ?_)
        first | refine stA (h := ?_) | refine stEA (h := ?_)
        refine WL.y (hy := asg) (h := ?_)
        refine nl (h := ?_)
        refine q_seq (h := ?_)
        refine sq (h := ?_)
        refine sq (h := ?_)
        refine rg (h := ?_)
        refine WL.y (hy := mv) (h := ?_)
        refine WL.y (hy := neq) (h := ?_)
        refine WL.y (hy := mv) (h := ?_)
        apply brOr 6 54 60 (by exact rfl)
        · intro hb5
          refine un (h := ?_)
          refine WL.y (hy := (by first | exact ldA | exact ldEA)) (h := ?_)
          refine un (h := ?_)
          refine WL.y (hy := mv) (h := ?_)
          refine un (h := ?_)
          refine WL.y (hy := mv) (h := ?_)
          refine un (h := ?_)
          refine cl0 (hc := fun w hS => C_ref3_IsMatchB f cf xs A n c s.first s.r s.A s.r.length s.c w (hS.get (by repeat (first | exact Rds.ro | exact Rds.own | apply Rds.there))) (hS.get (by repeat (first | exact Rds.ro | exact Rds.own | apply Rds.there))) (by have := hs.len; omega) (by omega) hR.c) (h := ?_)
          rw [mokB_iff.2 hM]
          refine un (h := ?_)
          refine WL.y (hy := notB) (h := ?_)
          refine WL.y (hy := (by first | exact pkT | exact pkF)) (h := ?_)
          exact mg (by repeat (first | exact trivial | refine ⟨rfl, ?_⟩ | refine ⟨by rw [hb5]; rfl, ?_⟩)) (by repeat (first | exact SubL.nil | (apply SubL.cons; (repeat (first | exact At.here | apply At.there))) | exact SubL.refl _ | apply SubL.skip))
        · intro hb5
          repeat (first | refine un (h := ?_) | refine sk (h := ?_) | refine WL.y (hy := pkF) (h := ?_) | refine WL.y (hy := pkT) (h := ?_))
          exact mg (by repeat (first | exact trivial | refine ⟨rfl, ?_⟩ | refine ⟨by rw [hb5]; rfl, ?_⟩)) (by repeat (first | exact SubL.nil | (apply SubL.cons; (repeat (first | exact At.here | apply At.there))) | exact SubL.refl _ | apply SubL.skip))
        refine nl (h := ?_)
        refine q_seq (h := ?_)
        refine cd (by exact rfl) (fun h6 => ?_) (fun h6 => ?_)
        · skip
          have h0 := h6
          cases h0
        · skip
          refine skp (h := ?_)
          refine q_seq (h := ?_)
          refine sq (h := ?_)
          refine rg (h := ?_)
          refine WL.y (hy := asg) (h := ?_)
          refine WL.cut (by repeat (first | exact Cut.nil | apply Cut.hit | apply Cut.miss (by exact rfl))) ?_
          refine nl (h := ?_)
          refine q_seq (h := ?_)
          refine sq (h := ?_)
          refine sq (h := ?_)
          refine rg (h := ?_)
          refine WL.y (hy := asg) (h := ?_)
          refine nl (h := ?_)
          refine q_seq (h := ?_)
          refine bk (h := ?_)
          refine lp (X := Nat) (I := fun i => i ≤ qa.zs.length) (le := fun i => [(1, .pointer (some ⟨b0, 0, none⟩)), (6, .slice qa.A qa.zs.length qa.c), (8, .pointer (some ⟨b1, 0, none⟩)), (10, .bool (fndX qa.zs ⟨m.st, m.g, m.p⟩ i)), (11, .int .i64 i)]) (Le := fun _ => [.blk b1 54 ((scO (some m)).cells u.1 u.2), .own u.1 u.2 43 2 (scO (some m)).st.length (encP (scO (some m)).st), .own qa.A qa.c 52 5 qa.zs.length (encX qa.zs), manyE true (qa.zs.map rowX), .blk b0 26 (cardC f cf A n c), .ro A 4 n (encN xs)]) (μ := fun i => qa.zs.length - i) 0 (Nat.zero_le _) (by repeat (first | exact trivial | refine ⟨rfl, ?_⟩)) (by repeat (first | exact SubL.nil | (apply SubL.cons; (repeat (first | exact At.here | apply At.there))) | exact SubL.refl _ | apply SubL.skip)) (fun i hi => ?_)
          refine sq (h := ?_)
          refine sq (h := ?_)
          refine rg (h := ?_)
          refine WL.y (hy := mv) (h := ?_)
          refine WL.y (hy := mv) (h := ?_)
          refine WL.y (hy := lenS) (h := ?_)
          refine WL.y (hy := lss) (h := ?_)
          refine nl (h := ?_)
          refine q_seq (h := ?_)
          refine cd (by exact rfl) (fun h7 => ?_) (fun h7 => ?_)
          · skip
            have hin : i < qa.zs.length := by have := of_decide_eq_true h7; omega
            obtain ⟨x1, hx1⟩ : ∃ x, qa.zs[i]? = some x := ⟨_, List.getElem?_eq_getElem hin⟩
            have hfs := fnd_succR (b := ⟨m.st, m.g, m.p⟩) hx1
            refine skp (h := ?_)
            refine q_seq (h := ?_)
            refine sq (h := ?_)
            refine bk (h := ?_)
            refine ct (X := Unit) (fun _ => True) (fun _ => [(1, .pointer (some ⟨b0, 0, none⟩)), (6, .slice qa.A qa.zs.length qa.c), (8, .pointer (some ⟨b1, 0, none⟩)), (10, .bool (fndX qa.zs ⟨m.st, m.g, m.p⟩ (i + 1))), (11, .int .i64 i)]) (fun _ => [.blk b1 54 ((scO (some m)).cells u.1 u.2), .own u.1 u.2 43 2 (scO (some m)).st.length (encP (scO (some m)).st), .own qa.A qa.c 52 5 qa.zs.length (encX qa.zs), manyE true (qa.zs.map rowX), .blk b0 26 (cardC f cf A n c), .ro A 4 n (encN xs)]) (h1 := ?_) (h2 := ?_)
            · skip
              refine rgD (by kernel_rfl) [(1000000, .own qa.A qa.c 52 5 qa.zs.length (encX qa.zs)), (1000000, .blk b1 54 ((scO (some m)).cells u.1 u.2))] (by repeat (first | exact HS.nil | (apply HS.keep; (repeat (first | exact At.here | apply At.there))) | (apply HS.ro; (repeat (first | exact Rds.ro | exact Rds.own | apply Rds.there))))) (h := ?_)
              refine tk 0 (hy := mv) (h := ?_)
              refine tk 1 (hy := mv) (h := ?_)
              refine brH (g := 68) (by exact rfl) (fun hb8 => ?_) (fun hb8 => ?_)
              · skip
                rw [hb8, Bool.true_or] at hfs
                refine tkS 2 (h := ?_)
                refine tkS 3 (h := ?_)
                refine tkS 4 (h := ?_)
                refine tkS 5 (h := ?_)
                refine tkS 6 (h := ?_)
                refine tkS 7 (h := ?_)
                refine tkS 8 (h := ?_)
                refine tk 9 (hy := (by first | exact pkT | exact pkF)) (h := ?_)
                refine tk 10 (hy := asg) (h := ?_)
                refine dn (h := ?_)
                rw [hfs]
                exact ctn () trivial (by repeat (first | exact trivial | refine ⟨rfl, ?_⟩)) (by repeat (first | exact SubL.nil | (apply SubL.cons; (repeat (first | exact At.here | apply At.there))) | exact SubL.refl _ | apply SubL.skip))
              · skip
                rw [hb8, Bool.false_or] at hfs
                refine tk 2 (hy := mv) (h := ?_)
                refine tk 3 (hy := mv) (h := ?_)
                refine tk 4 (hy := ix (A := qa.A) (m := qa.zs.length)) (h := ?_)
                refine tk 5 (hy := ldEW (A := qa.A) (k := i) (cs := x1.cells) (hk := encX_at hx1)) (h := ?_)
                refine tk 6 (hy := (by first | exact fa | exact faE)) (h := ?_)
                refine tk 7 (hy := (by first | exact ldA | exact ldEA)) (h := ?_)
                refine one 8 (h := ?_)
                refine un (h := ?_)
                refine cl0 (hc := fun w hS => C_ref3_SameBoard x1.b ⟨m.st, m.g, m.p⟩ x1.A u.1 x1.b.st.length x1.c m.st.length u.2 w (many_ok (List.mem_of_getElem? hx1) w (hS.ok _ (by repeat (first | exact List.mem_cons_self | apply List.mem_cons_of_mem)))) (hS.get (by repeat (first | exact Rds.ro | exact Rds.own | apply Rds.there))) (by have := (hqa.sm x1 (List.mem_of_getElem? hx1)).n; omega) (by omega)) (h := ?_)
                refine nx (h := ?_)
                refine tk 9 (hy := (by first | exact pkT | exact pkF)) (h := ?_)
                refine tk 10 (hy := asg) (h := ?_)
                refine dn (h := ?_)
                rw [hfs]
                exact ctn () trivial (by repeat (first | exact trivial | refine ⟨rfl, ?_⟩)) (by repeat (first | exact SubL.nil | (apply SubL.cons; (repeat (first | exact At.here | apply At.there))) | exact SubL.refl _ | apply SubL.skip))
            rintro ⟨⟩ -
            refine sq (h := ?_)
            refine ct (X := Unit) (fun _ => True) (fun _ => [(1, .pointer (some ⟨b0, 0, none⟩)), (6, .slice qa.A qa.zs.length qa.c), (8, .pointer (some ⟨b1, 0, none⟩)), (10, .bool (fndX qa.zs ⟨m.st, m.g, m.p⟩ (i + 1))), (11, .int .i64 i), (91, .bool false)]) (fun _ => [.blk b1 54 ((scO (some m)).cells u.1 u.2), .own u.1 u.2 43 2 (scO (some m)).st.length (encP (scO (some m)).st), .own qa.A qa.c 52 5 qa.zs.length (encX qa.zs), manyE true (qa.zs.map rowX), .blk b0 26 (cardC f cf A n c), .ro A 4 n (encN xs)]) (h1 := ?_) (h2 := ?_)
            · skip
              refine rgD (by kernel_rfl) [(1000000, .own qa.A qa.c 52 5 qa.zs.length (encX qa.zs))] (by repeat (first | exact HS.nil | (apply HS.keep; (repeat (first | exact At.here | apply At.there))) | (apply HS.ro; (repeat (first | exact Rds.ro | exact Rds.own | apply Rds.there))))) (h := ?_)
              refine tk 0 (hy := mv) (h := ?_)
              refine tk 1 (hy := gtr) (h := ?_)
              refine tk 2 (hy := mv) (h := ?_)
              refine brH (g := 79) (by exact rfl) (fun hb9 => ?_) (fun hb9 => ?_)
              · skip
                have hi0 : 0 < i := by have := of_decide_eq_true hb9; omega
                obtain ⟨x0, hx0⟩ : ∃ x, qa.zs[i - 1]? = some x := ⟨_, List.getElem?_eq_getElem (by omega)⟩
                have hx0' : qa.zs[((i : Int) - 1).toNat]? = some x0 := by rw [show ((i : Int) - 1).toNat = i - 1 by omega]; exact hx0
                have hls := srt_next hqa hp0 hx0 (by rw [show i - 1 + 1 = i by omega]; exact hx1)
                refine tk 3 (hy := mv) (h := ?_)
                refine tk 4 (hy := mv) (h := ?_)
                refine tk 5 (hy := subI (hb := by omega)) (h := ?_)
                refine tk 6 (hy := ix (A := qa.A) (m := qa.zs.length) (hb := by omega)) (h := ?_)
                refine tk 7 (hy := ldEW (A := qa.A) (cs := x0.cells) (hk := encX_at hx0')) (h := ?_)
                refine tk 8 (hy := mv) (h := ?_)
                refine tk 9 (hy := mv) (h := ?_)
                refine tk 10 (hy := ix (A := qa.A) (m := qa.zs.length)) (h := ?_)
                refine tk 11 (hy := ldEW (A := qa.A) (cs := x1.cells) (hk := encX_at hx1)) (h := ?_)
                refine one 12 (h := ?_)
                refine un (h := ?_)
                refine cl0 (hc := fun w hS => C_ref3_Less x0.b x1.b x0.A x1.A x0.b.st.length x0.c x1.b.st.length x1.c w (many_ok (List.mem_of_getElem? hx0) w (hS.ok _ (by repeat (first | exact List.mem_cons_self | apply List.mem_cons_of_mem)))) (many_ok (List.mem_of_getElem? hx1) w (hS.ok _ (by repeat (first | exact List.mem_cons_self | apply List.mem_cons_of_mem)))) (by have := (hqa.sm x0 (List.mem_of_getElem? hx0)).n; omega) (by have := (hqa.sm x1 (List.mem_of_getElem? hx1)).n; omega)) (h := ?_)
                rw [hls]
                refine nx (h := ?_)
                refine tk 13 (hy := notB) (h := ?_)
                refine tk 14 (hy := (by first | exact pkT | exact pkF)) (h := ?_)
                refine dn (h := ?_)
                exact ctn () trivial (by repeat (first | exact trivial | refine ⟨rfl, ?_⟩)) (by repeat (first | exact SubL.nil | (apply SubL.cons; (repeat (first | exact At.here | apply At.there))) | exact SubL.refl _ | apply SubL.skip))
              · skip
                refine tkS 3 (h := ?_)
                refine tkS 4 (h := ?_)
                refine tkS 5 (h := ?_)
                refine tkS 6 (h := ?_)
                refine tkS 7 (h := ?_)
                refine tkS 8 (h := ?_)
                refine tkS 9 (h := ?_)
                refine tkS 10 (h := ?_)
                refine tkS 11 (h := ?_)
                refine tkS 12 (h := ?_)
                refine tkS 13 (h := ?_)
                refine tk 14 (hy := (by first | exact pkT | exact pkF)) (h := ?_)
                refine dn (h := ?_)
                exact ctn () trivial (by repeat (first | exact trivial | refine ⟨rfl, ?_⟩)) (by repeat (first | exact SubL.nil | (apply SubL.cons; (repeat (first | exact At.here | apply At.there))) | exact SubL.refl _ | apply SubL.skip))
            rintro ⟨⟩ -
            refine cd (by exact rfl) (fun h10 => ?_) (fun h10 => ?_)
            · skip
              have h0 := h10
              cases h0
            · skip
              refine skp (h := ?_)
              refine q_seq (h := ?_)
              refine sq (h := ?_)
              refine sq (h := ?_)
              refine rg (h := ?_)
              refine WL.y (hy := (by first | exact fa | exact faE)) (h := ?_)
              refine WL.y (hy := (by first | exact ld | exact ldE)) (h := ?_)
              refine WL.y (hy := lenS) (h := ?_)
              refine WL.y (hy := geq) (h := ?_)
              refine WL.y (hy := mv) (h := ?_)
              apply brOr 8 96 104 (by exact rfl)
              · intro hb11
                refine un (h := ?_)
                refine WL.y (hy := mv) (h := ?_)
                refine un (h := ?_)
                refine WL.y (hy := mv) (h := ?_)
                refine un (h := ?_)
                refine WL.y (hy := ix (A := qa.A) (m := qa.zs.length) (hb := by omega)) (h := ?_)
                refine un (h := ?_)
                refine WL.y (hy := faE (A := qa.A)) (h := ?_)
                refine un (h := ?_)
                refine WL.y (hy := faE (A := qa.A)) (h := ?_)
                refine un (h := ?_)
                refine WL.y (hy := ldE (A := qa.A) (hk := encX_at hx1)) (h := ?_)
                refine un (h := ?_)
                refine WL.y (hy := lss) (h := ?_)
                refine WL.y (hy := (by first | exact pkT | exact pkF)) (h := ?_)
                exact mg (by repeat (first | exact trivial | refine ⟨rfl, ?_⟩ | refine ⟨by rw [hb11]; rfl, ?_⟩)) (by repeat (first | exact SubL.nil | (apply SubL.cons; (repeat (first | exact At.here | apply At.there))) | exact SubL.refl _ | apply SubL.skip))
              · intro hb11
                repeat (first | refine un (h := ?_) | refine sk (h := ?_) | refine WL.y (hy := pkF) (h := ?_) | refine WL.y (hy := pkT) (h := ?_))
                exact mg (by repeat (first | exact trivial | refine ⟨rfl, ?_⟩ | refine ⟨by rw [hb11]; rfl, ?_⟩)) (by repeat (first | exact SubL.nil | (apply SubL.cons; (repeat (first | exact At.here | apply At.there))) | exact SubL.refl _ | apply SubL.skip))
              refine WL.y (hy := mv) (h := ?_)
              apply brOr 8 105 113 (by exact rfl)
              · intro hb12
                refine un (h := ?_)
                refine WL.y (hy := mv) (h := ?_)
                refine un (h := ?_)
                refine WL.y (hy := mv) (h := ?_)
                refine un (h := ?_)
                refine WL.y (hy := ix (A := qa.A) (m := qa.zs.length) (hb := by omega)) (h := ?_)
                refine un (h := ?_)
                refine WL.y (hy := faE (A := qa.A)) (h := ?_)
                refine un (h := ?_)
                refine WL.y (hy := faE (A := qa.A)) (h := ?_)
                refine un (h := ?_)
                refine WL.y (hy := ldE (A := qa.A) (hk := encX_at hx1)) (h := ?_)
                refine un (h := ?_)
                refine WL.y (hy := gtr) (h := ?_)
                refine WL.y (hy := (by first | exact pkT | exact pkF)) (h := ?_)
                exact mg (by repeat (first | exact trivial | refine ⟨rfl, ?_⟩ | refine ⟨by rw [hb12]; rfl, ?_⟩)) (by repeat (first | exact SubL.nil | (apply SubL.cons; (repeat (first | exact At.here | apply At.there))) | exact SubL.refl _ | apply SubL.skip))
              · intro hb12
                repeat (first | refine un (h := ?_) | refine sk (h := ?_) | refine WL.y (hy := pkF) (h := ?_) | refine WL.y (hy := pkT) (h := ?_))
                exact mg (by repeat (first | exact trivial | refine ⟨rfl, ?_⟩ | refine ⟨by rw [hb12]; rfl, ?_⟩)) (by repeat (first | exact SubL.nil | (apply SubL.cons; (repeat (first | exact At.here | apply At.there))) | exact SubL.refl _ | apply SubL.skip))
              refine WL.y (hy := mv) (h := ?_)
              apply brOr 8 114 122 (by exact rfl)
              · intro hb13
                refine un (h := ?_)
                refine WL.y (hy := mv) (h := ?_)
                refine un (h := ?_)
                refine WL.y (hy := mv) (h := ?_)
                refine un (h := ?_)
                refine WL.y (hy := ix (A := qa.A) (m := qa.zs.length) (hb := by omega)) (h := ?_)
                refine un (h := ?_)
                refine WL.y (hy := faE (A := qa.A)) (h := ?_)
                refine un (h := ?_)
                refine WL.y (hy := faE (A := qa.A)) (h := ?_)
                refine un (h := ?_)
                refine WL.y (hy := ldE (A := qa.A) (hk := encX_at hx1)) (h := ?_)
                refine un (h := ?_)
                refine WL.y (hy := lss) (h := ?_)
                refine WL.y (hy := (by first | exact pkT | exact pkF)) (h := ?_)
                exact mg (by repeat (first | exact trivial | refine ⟨rfl, ?_⟩ | refine ⟨by rw [hb13]; rfl, ?_⟩)) (by repeat (first | exact SubL.nil | (apply SubL.cons; (repeat (first | exact At.here | apply At.there))) | exact SubL.refl _ | apply SubL.skip))
              · intro hb13
                repeat (first | refine un (h := ?_) | refine sk (h := ?_) | refine WL.y (hy := pkF) (h := ?_) | refine WL.y (hy := pkT) (h := ?_))
                exact mg (by repeat (first | exact trivial | refine ⟨rfl, ?_⟩ | refine ⟨by rw [hb13]; rfl, ?_⟩)) (by repeat (first | exact SubL.nil | (apply SubL.cons; (repeat (first | exact At.here | apply At.there))) | exact SubL.refl _ | apply SubL.skip))
              refine WL.y (hy := mv) (h := ?_)
              apply brOr 8 123 131 (by exact rfl)
              · intro hb14
                refine un (h := ?_)
                refine WL.y (hy := mv) (h := ?_)
                refine un (h := ?_)
                refine WL.y (hy := mv) (h := ?_)
                refine un (h := ?_)
                refine WL.y (hy := ix (A := qa.A) (m := qa.zs.length) (hb := by omega)) (h := ?_)
                refine un (h := ?_)
                refine WL.y (hy := faE (A := qa.A)) (h := ?_)
                refine un (h := ?_)
                refine WL.y (hy := faE (A := qa.A)) (h := ?_)
                refine un (h := ?_)
                refine WL.y (hy := ldE (A := qa.A) (hk := encX_at hx1)) (h := ?_)
                refine un (h := ?_)
                refine WL.y (hy := gtr) (h := ?_)
                refine WL.y (hy := (by first | exact pkT | exact pkF)) (h := ?_)
                exact mg (by repeat (first | exact trivial | refine ⟨rfl, ?_⟩ | refine ⟨by rw [hb14]; rfl, ?_⟩)) (by repeat (first | exact SubL.nil | (apply SubL.cons; (repeat (first | exact At.here | apply At.there))) | exact SubL.refl _ | apply SubL.skip))
              · intro hb14
                repeat (first | refine un (h := ?_) | refine sk (h := ?_) | refine WL.y (hy := pkF) (h := ?_) | refine WL.y (hy := pkT) (h := ?_))
                exact mg (by repeat (first | exact trivial | refine ⟨rfl, ?_⟩ | refine ⟨by rw [hb14]; rfl, ?_⟩)) (by repeat (first | exact SubL.nil | (apply SubL.cons; (repeat (first | exact At.here | apply At.there))) | exact SubL.refl _ | apply SubL.skip))
              refine nl (h := ?_)
              refine q_seq (h := ?_)
              refine cd (by exact rfl) (fun h15 => ?_) (fun h15 => ?_)
              · skip
                refine et (h := ?_)
                refine q_then_exit (h := ?_)
                refine q_blk_hit (h := ?_)
                refine q_seq (h := ?_)
                refine rg (h := ?_)
                refine WL.y (hy := mv) (h := ?_)
                refine WL.y (hy := addI) (h := ?_)
                refine WL.y (hy := asg) (h := ?_)
                refine nl (h := ?_)
                refine rn (x := i) (i + 1) hin (by omega) (by repeat (first | exact trivial | refine ⟨rfl, ?_⟩)) (by repeat (first | exact SubL.nil | (apply SubL.cons; (repeat (first | exact At.here | apply At.there))) | exact SubL.refl _ | apply SubL.skip))
              · skip
                have h0 := h15
                simp only [Bool.or_eq_false_iff, decide_eq_false_iff_not] at h0
                have hmr := shown_more hR hqa hp0 (List.mem_of_getElem? hx1) (by omega)
                refine skp (h := ?_)
                refine q_seq (h := ?_)
                refine sq (h := ?_)
                refine rg (h := ?_)
                refine WL.y (hy := (by first | exact ldA | exact ldEA)) (h := ?_)
                refine cl (hc := fun w hS => C_ref3_Copy f cf xs A n c w (hS.get (by repeat (first | exact Rds.ro | exact Rds.own | apply Rds.there))) (by omega)) (h := fun q _ => ?_)
                refine al (h := fun b2 => ?_)
                first | refine stA (h := ?_) | refine stEA (h := ?_)
                refine nl (h := ?_)
                refine q_seq (h := ?_)
                refine sq (h := ?_)
                refine rgD (by kernel_rfl) [(11, .blk b2 26 (cardC f cf q.1 n q.2)), (1000000, .own qa.A qa.c 52 5 qa.zs.length (encX qa.zs))] (by repeat (first | exact HS.nil | (apply HS.keep; (repeat (first | exact At.here | apply At.there))) | (apply HS.ro; (repeat (first | exact Rds.ro | exact Rds.own | apply Rds.there))))) (h := ?_)
                refine tk 0 (hy := (by first | exact fa | exact faE)) (h := ?_)
                refine tk 1 (hy := (by first | exact ld | exact ldE)) (h := ?_)
                refine tk 2 (hy := mv) (h := ?_)
                refine tk 3 (hy := mv) (h := ?_)
                refine tk 4 (hy := ix (A := qa.A) (m := qa.zs.length)) (h := ?_)
                refine tk 5 (hy := (by first | exact fa | exact faE)) (h := ?_)
                refine tk 6 (hy := ldEA (A := qa.A) (k := i) (hk := encX_at hx1)) (h := ?_)
                refine tk 7 (hy := bd) (h := ?_)
                refine one 8 (h := ?_)
                refine bs (h := fun b3 => ?_)
                refine nx (h := ?_)
                refine one 9 (h := ?_)
                refine ap (es := encN xs) (m := n) (k := 1) (A := q.1) (c := q.2) (h := fun A1 c1 => ?_)
                rw [show encN xs ++ [[.int .i64 3, .int .i64 0, .int .i64 x1.b.p.1, .int .i64 x1.b.p.2]] = encN (xs ++ [⟨3, 0, x1.b.p⟩]) by unfold encN; rw [List.map_append]; rfl]
                refine nx (h := ?_)
                refine tk 10 (hy := (by first | exact fa | exact faE)) (h := ?_)
                refine one 11 (h := ?_)
                first | refine st (h := ?_) | refine stE (h := ?_)
                refine nx (h := ?_)
                refine dn (h := ?_)
                refine q_seq (h := ?_)
                refine sq (h := ?_)
                refine rg (h := ?_)
                refine WL.y (hy := (by first | exact ldA | exact ldEA)) (h := ?_)
                refine cl0 (hc := fun w hS => C_card_First f cf (xs ++ [⟨3, 0, x1.b.p⟩]) A1 (n + 1) c1 w (hS.get (by repeat (first | exact Rds.ro | exact Rds.own | apply Rds.there))) (by omega) (fun _ => by have := (hR.more hmr.1 (show (3 : Int) ≤ 3 by decide)).2.1; omega)) (h := ?_)
                rw [hmr.2, (hR.more hmr.1 (show (3 : Int) ≤ 3 by decide)).1]
                refine WL.y (hy := mv) (h := ?_)
                refine WL.y (hy := ex) (h := ?_)
                refine WL.y (hy := ex) (h := ?_)
                refine WL.y (hy := asg) (h := ?_)
                refine WL.y (hy := asg) (h := ?_)
                refine nl (h := ?_)
                refine q_seq (h := ?_)
                refine sq (h := ?_)
                refine rg (h := ?_)
                refine WL.y (hy := mv) (h := ?_)
                refine WL.y (hy := neq) (h := ?_)
                refine WL.y (hy := mv) (h := ?_)
                apply brOr 3 152 155 (by exact rfl)
                · intro hb16
                  refine un (h := ?_)
                  refine WL.y (hy := mv) (h := ?_)
                  refine un (h := ?_)
                  refine WL.y (hy := neq) (h := ?_)
                  refine WL.y (hy := (by first | exact pkT | exact pkF)) (h := ?_)
                  exact mg (by repeat (first | exact trivial | refine ⟨rfl, ?_⟩ | refine ⟨by rw [hb16]; rfl, ?_⟩)) (by repeat (first | exact SubL.nil | (apply SubL.cons; (repeat (first | exact At.here | apply At.there))) | exact SubL.refl _ | apply SubL.skip))
                · intro hb16
                  repeat (first | refine un (h := ?_) | refine sk (h := ?_) | refine WL.y (hy := pkF) (h := ?_) | refine WL.y (hy := pkT) (h := ?_))
                  exact mg (by repeat (first | exact trivial | refine ⟨rfl, ?_⟩ | refine ⟨by rw [hb16]; rfl, ?_⟩)) (by repeat (first | exact SubL.nil | (apply SubL.cons; (repeat (first | exact At.here | apply At.there))) | exact SubL.refl _ | apply SubL.skip))
                refine nl (h := ?_)
                refine q_seq (h := ?_)
                refine cd (by exact rfl) (fun h17 => ?_) (fun h17 => ?_)
                · skip
                  have h0 := h17
                  cases h0
                · skip
                  refine skp (h := ?_)
                  refine q_blk_norm (h := ?_)
                  refine q_seq (h := ?_)
                  refine rg (h := ?_)
                  refine WL.y (hy := mv) (h := ?_)
                  refine WL.y (hy := addI) (h := ?_)
                  refine WL.y (hy := asg) (h := ?_)
                  refine nl (h := ?_)
                  refine rn (x := i) (i + 1) hin (by omega) (by repeat (first | exact trivial | refine ⟨rfl, ?_⟩)) (by repeat (first | exact SubL.nil | (apply SubL.cons; (repeat (first | exact At.here | apply At.there))) | exact SubL.refl _ | apply SubL.skip))
          · skip
            have hin : i = qa.zs.length := by have := of_decide_eq_false h7; omega
            rw [hin, fnd_mem (b := ⟨m.st, m.g, m.p⟩) (zs := qa.zs) (by rw [hqa.yes hp0]; exact ((boards_facts _).2 _).2 ⟨spotOf m, hT.k, rfl⟩)]
            refine et (h := ?_)
            refine q_then_exit (h := ?_)
            refine q_then_exit (h := ?_)
            refine q_blk_hit (h := ?_)
            refine q_seq (h := ?_)
            refine sq (h := ?_)
            refine rg (h := ?_)
            refine WL.y (hy := mv) (h := ?_)
            refine WL.y (hy := mv) (h := ?_)
            apply brAnd 2 157 159 (by exact rfl)
            · intro hb18
              refine un (h := ?_)
              refine cl0 (hc := fun w hS => C_law3_works w) (h := ?_)
              refine WL.y (hy := (by first | exact pkT | exact pkF)) (h := ?_)
              exact mg (by repeat (first | exact trivial | refine ⟨rfl, ?_⟩ | refine ⟨by rw [hb18]; rfl, ?_⟩)) (by repeat (first | exact SubL.nil | (apply SubL.cons; (repeat (first | exact At.here | apply At.there))) | exact SubL.refl _ | apply SubL.skip))
            · intro hb18
              repeat (first | refine un (h := ?_) | refine sk (h := ?_) | refine WL.y (hy := pkF) (h := ?_) | refine WL.y (hy := pkT) (h := ?_))
              exact mg (by repeat (first | exact trivial | refine ⟨rfl, ?_⟩ | refine ⟨by rw [hb18]; rfl, ?_⟩)) (by repeat (first | exact SubL.nil | (apply SubL.cons; (repeat (first | exact At.here | apply At.there))) | exact SubL.refl _ | apply SubL.skip))
            refine WL.y (hy := asg) (h := ?_)
            refine nl (h := ?_)
            refine q_seq (h := ?_)
            refine rtn (h := ?_)
            refine q_ret (hR := ?_)
            exact fun w hS => ⟨rfl, hS.sub (by repeat (first | exact SubL.nil | (apply SubL.cons; (repeat (first | exact At.here | apply At.there))) | exact SubL.refl _ | apply SubL.skip))⟩
end Go.Proofs.YtpejgebcmhmpaaaGreat
