/- Walks of gate, eleven: tickets and refunds. -/
import Derived.Test.YtbcclgfobiholaaGA
namespace Go.Proofs.Ytbcclgfobiholaa
open Go Go.RowKit

structure Tkt where
  (id price day paid : Int)
abbrev Tkt.enc (t : Tkt) : List Value := [.int .i64 t.id, .int .i64 t.price, .int .i64 t.day, .int .i64 t.paid]
abbrev Tkt.val (t : Tkt) : Value := .agg #[.int .i64 t.id, .int .i64 t.price, .int .i64 t.day, .int .i64 t.paid]
def encTk (l : List Tkt) : List (List Value) := l.map Tkt.enc
theorem encTk_len (l : List Tkt) : (encTk l).length = l.length := by simp [encTk]
theorem encTk_at {l : List Tkt} {k : Nat} {t : Tkt} (h : l[k]? = some t) : (encTk l)[k]? = some t.enc := by simp [encTk, h]
structure Tm where
  (short long : Int) (pl : List Int)
abbrev Tm.cells (x : Tm) (A : Option Addr) (c : Nat) : List Value := [.int .i64 x.short, .int .i64 x.long, .slice A x.pl.length c]
abbrev Tm.val (x : Tm) (A : Option Addr) (c : Nat) : Value := .agg #[.int .i64 x.short, .int .i64 x.long, .slice A x.pl.length c]
def tkOk (x : Tm) (t : Tkt) : Bool := win t.id 0 999 && win t.price 0 1000000 && win t.day 0 (x.pl.length - 1) && win t.paid 0 t.price
def tHead (x : Tm) (n : Nat) : Bool := isT x.short && isT x.long && decide (x.short ≤ x.long) && decide ((x.pl.length : Int) ≤ 30) && decide ((n : Int) ≤ 40)
def dupT (l : List Tkt) (k : Nat) (id : Int) : Bool := (l.take k).any fun t => decide (t.id = id)
def tksOk (x : Tm) (l : List Tkt) : Nat → Bool
  | 0 => true
  | k + 1 => tksOk x l k && (match l[k]? with | some t => !dupT l k t.id && tkOk x t | none => true)
def areT (x : Tm) (l : List Tkt) : Bool := tHead x l.length && x.pl.all isT && tksOk x l l.length
theorem tksOk_succ {x : Tm} {l : List Tkt} {k : Nat} {t : Tkt} (h : l[k]? = some t) : tksOk x l (k + 1) = (tksOk x l k && (!dupT l k t.id && tkOk x t)) := by rw [tksOk, h]
theorem tksOk_le {x : Tm} {l : List Tkt} {j : Nat} (h : tksOk x l j = false) : ∀ {k : Nat}, j ≤ k → tksOk x l k = false
  | 0, hk => by obtain rfl : j = 0 := by omega
                exact h
  | k + 1, hk => by
    by_cases e : j = k + 1
    · subst e; exact h
    · rw [tksOk, tksOk_le h (k := k) (by omega)]; rfl
theorem dupT_succ {l : List Tkt} {k : Nat} {t : Tkt} (h : l[k]? = some t) (id : Int) : dupT l (k + 1) id = (dupT l k id || decide (t.id = id)) := by
  unfold dupT
  rw [List.take_add_one, h]
  simp
theorem tksOk_all {x : Tm} {l : List Tkt} : ∀ {k : Nat}, tksOk x l k = true → (∀ (i : Nat) (t : Tkt), i < k → l[i]? = some t → tkOk x t = true ∧ dupT l i t.id = false)
  | 0, _, i, _, hi, _ => by omega
  | k + 1, h, i, t, hi, hg => by
    rw [tksOk, Bool.and_eq_true] at h
    by_cases e : i = k
    · subst e
      have h2 := h.2
      rw [hg] at h2
      simp only [Bool.and_eq_true, Bool.not_eq_true'] at h2
      exact ⟨h2.2, h2.1⟩
    · exact tksOk_all h.1 i t (by omega) hg
structure TRd (w : World) (x : Tm) (l : List Tkt) (pA lA : Option Addr) : Prop where
  rp : Rd w pA 1 x.pl.length (enI x.pl)
  rl : Rd w lA 4 l.length (encTk l)
  pn : x.pl.length ≤ 9223372036854775807
  ln : l.length ≤ 9223372036854775807
/-- Valid terms and tickets. -/
structure TOk (x : Tm) (l : List Tkt) : Prop where
  s : 0 ≤ x.short ∧ x.short ≤ x.long ∧ x.long ≤ 1440
  np : x.pl.length ≤ 30
  nl : l.length ≤ 40
  pl : ∀ n ∈ x.pl, 0 ≤ n ∧ n ≤ 1440
  tk : ∀ t ∈ l, (0 ≤ t.id ∧ t.id ≤ 999) ∧ (0 ≤ t.price ∧ t.price ≤ 1000000) ∧ (0 ≤ t.day ∧ t.day < x.pl.length) ∧ (0 ≤ t.paid ∧ t.paid ≤ t.price)
theorem t_ok {x : Tm} {l : List Tkt} (h : areT x l = true) : TOk x l := by
  simp only [areT, tHead, isT, Bool.and_eq_true, decide_eq_true_eq, win_iff] at h
  obtain ⟨⟨⟨⟨⟨⟨h1, h2⟩, h3⟩, h4⟩, h5⟩, h6⟩, h7⟩ := h
  have hall := tksOk_all h7
  refine ⟨by omega, by omega, by omega, fun n hn => ?_, fun t ht => ?_⟩
  · have := List.all_eq_true.1 h6 n hn
    exact win_iff.1 this
  · obtain ⟨i, hi, rfl⟩ := List.getElem_of_mem ht
    have := (hall i _ hi (List.getElem?_eq_getElem hi)).1
    simp only [tkOk, Bool.and_eq_true, win_iff] at this
    obtain ⟨⟨⟨k1, k2⟩, k3⟩, k4⟩ := this
    exact ⟨k1, k2, by omega, k4⟩
theorem C_gate_are1 (n : Int) (w : World) : C0 Try.prog 54 [.int .i64 n] w (.bool (!isT n)) := by
  refine ⟨en Try.func54 Try.ntmps54 (St.init w) (h := fun F => ?_)⟩
  refine sq (h := ?_)
  refine rg (h := ?_)
  refine WL.y (hy := asg) (h := ?_)
  refine nl (h := ?_)
  refine q_seq (h := ?_)
  refine sq (h := ?_)
  refine rg (h := ?_)
  refine WL.y (hy := mv) (h := ?_)
  refine cl0 (hc := fun w hS => C_gate_isTime ..) (h := ?_)
  refine WL.y (hy := notB) (h := ?_)
  refine WL.y (hy := asg) (h := ?_)
  refine nl (h := ?_)
  refine q_seq (h := ?_)
  refine rtn (h := ?_)
  refine q_ret (hR := ?_)
  exact fun w hS => ⟨rfl, hS.sub (by repeat (first | exact SubL.nil | (apply SubL.cons; (repeat (first | exact At.here | apply At.there))) | exact SubL.refl _ | apply SubL.skip))⟩
theorem T_ContainsInt {E : Ent} {A : Option Addr} {n c : Nat} {ws : List Int} (hE : ∀ w, E.ok w → Rd w A 1 n (enI ws)) {g : FuncId} (hg : FnOk Try.prog g) (fi cap : List Value) (Lp : List Ent) (p : Int → Bool) (hn : n ≤ 9223372036854775807) (hlen : ws.length = n)
    (hp : ∀ x ∈ ws, Tr Try.prog g (fi ++ [.int .i64 x] ++ cap) Lp (fun _ : Unit => True) (fun _ => .bool (p x)) (fun _ => Lp)) :
    Tr Try.prog 53 [.slice A n c, .func (.func g) fi.toArray cap.toArray] (E :: Lp) (fun _ : Unit => True) (fun _ => .bool ((List.range n).any (pAt ws p))) (fun _ => E :: Lp) := by
  refine ⟨fun w0 w R hst => ?_⟩
  refine en Try.func53 Try.ntmps53 hst (h := fun F => ?_)
  refine sq (h := ?_)
  refine rg (h := ?_)
  refine WL.y (hy := asg) (h := ?_)
  refine nl (h := ?_)
  refine q_seq (h := ?_)
  refine sq (h := ?_)
  refine rg (h := ?_)
  refine WL.y (hy := mv) (h := ?_)
  refine WL.y (hy := mv) (h := ?_)
  refine clT (hc := T_IndexInt (c := c) hE hg fi cap Lp p hn hlen hp) (hs := Spl.cons .here (Spl.app _ _)) (h := fun x0 hx0 => ?_)
  refine WL.y (hy := geq) (h := ?_)
  refine WL.y (hy := asg) (h := ?_)
  refine nl (h := ?_)
  refine q_seq (h := ?_)
  refine rtn (h := ?_)
  refine q_ret (hR := ?_)
  exact fun w hS => ⟨(), trivial, by simp only [resV, hx0.any], hS⟩
theorem tHead_not (x : Tm) (n : Nat) : (!isT x.short || !isT x.long || decide (x.long < x.short) || decide ((30 : Int) < x.pl.length) || decide ((40 : Int) < n)) = !tHead x n := by
  unfold tHead
  simp only [Bool.not_and]
  rw [← decide_not, ← decide_not, ← decide_not]
  congr 1
  · congr 1
    · congr 1
      exact decide_eq_decide.2 (by omega)
    · exact decide_eq_decide.2 (by omega)
  · exact decide_eq_decide.2 (by omega)
theorem pl_any (xs : List Int) : (List.range xs.length).any (pAt xs fun n => !isT n) = !xs.all isT := by
  rw [pAt_any, List.not_all_eq_any_not]
theorem tk_not (x : Tm) (t : Tkt) : (!win t.id 0 999 || !win t.price 0 1000000 || !win t.day 0 (x.pl.length - 1) || !win t.paid 0 t.price) = !tkOk x t := by
  simp [tkOk, Bool.not_and]
def cntT (l : List Tkt) (k : Nat) (id : Int) : Int := bif dupT l k id then 1 else 0
theorem cntT_rng (l : List Tkt) (k : Nat) (id : Int) : 0 ≤ cntT l k id ∧ cntT l k id ≤ 1 := by unfold cntT; cases dupT l k id <;> simp
set_option maxHeartbeats 1000000 in
theorem C_gate_areTickets (x : Tm) (l : List Tkt) (pA lA : Option Addr) (pc lc : Nat) (w : World) (h : TRd w x l pA lA) : C0 Try.prog 40 [x.val pA pc, .slice lA l.length lc] w (.bool (areT x l)) := by
  obtain ⟨hp, hl, hpn, hln⟩ := h
  refine ⟨en Try.func40 Try.ntmps40 (((St.init w).share (e := .ro pA 1 x.pl.length (enI x.pl)) hp rfl rfl rfl).share (e := .ro lA 4 l.length (encTk l)) hl rfl rfl rfl) (h := fun F => ?_)⟩
  refine sq (h := ?_)
  refine rg (h := ?_)
  refine bxA (h := fun b0 => ?_)
  refine WL.y (hy := asg) (h := ?_)
  refine nl (h := ?_)
  refine q_seq (h := ?_)
  refine sq (h := ?_)
  refine sq (h := ?_)
  refine rg (h := ?_)
  refine WL.y (hy := (by first | exact fa | exact faE)) (h := ?_)
  refine WL.y (hy := (by first | exact ld | exact ldE)) (h := ?_)
  refine cl0 (hc := fun w hS => C_gate_isTime ..) (h := ?_)
  refine WL.y (hy := notB) (h := ?_)
  refine WL.y (hy := mv) (h := ?_)
  apply brOr 5 12 17 (by exact rfl)
  · intro hb0
    refine un (h := ?_)
    refine WL.y (hy := (by first | exact fa | exact faE)) (h := ?_)
    refine un (h := ?_)
    refine WL.y (hy := (by first | exact ld | exact ldE)) (h := ?_)
    refine un (h := ?_)
    refine cl0 (hc := fun w hS => C_gate_isTime ..) (h := ?_)
    refine un (h := ?_)
    refine WL.y (hy := notB) (h := ?_)
    refine WL.y (hy := (by first | exact pkT | exact pkF)) (h := ?_)
    exact mg (by repeat (first | exact trivial | refine ⟨rfl, ?_⟩ | refine ⟨by rw [hb0]; rfl, ?_⟩)) (by repeat (first | exact SubL.nil | (apply SubL.cons; (repeat (first | exact At.here | apply At.there))) | exact SubL.refl _ | apply SubL.skip))
  · intro hb0
    repeat (first | refine un (h := ?_) | refine sk (h := ?_) | refine WL.y (hy := pkF) (h := ?_) | refine WL.y (hy := pkT) (h := ?_))
    exact mg (by repeat (first | exact trivial | refine ⟨rfl, ?_⟩ | refine ⟨by rw [hb0]; rfl, ?_⟩)) (by repeat (first | exact SubL.nil | (apply SubL.cons; (repeat (first | exact At.here | apply At.there))) | exact SubL.refl _ | apply SubL.skip))
  refine WL.y (hy := mv) (h := ?_)
  apply brOr 6 18 24 (by exact rfl)
  · intro hb1
    refine un (h := ?_)
    refine WL.y (hy := (by first | exact fa | exact faE)) (h := ?_)
    refine un (h := ?_)
    refine WL.y (hy := (by first | exact ld | exact ldE)) (h := ?_)
    refine un (h := ?_)
    refine WL.y (hy := (by first | exact fa | exact faE)) (h := ?_)
    refine un (h := ?_)
    refine WL.y (hy := (by first | exact ld | exact ldE)) (h := ?_)
    refine un (h := ?_)
    refine WL.y (hy := gtr) (h := ?_)
    refine WL.y (hy := (by first | exact pkT | exact pkF)) (h := ?_)
    exact mg (by repeat (first | exact trivial | refine ⟨rfl, ?_⟩ | refine ⟨by rw [hb1]; rfl, ?_⟩)) (by repeat (first | exact SubL.nil | (apply SubL.cons; (repeat (first | exact At.here | apply At.there))) | exact SubL.refl _ | apply SubL.skip))
  · intro hb1
    repeat (first | refine un (h := ?_) | refine sk (h := ?_) | refine WL.y (hy := pkF) (h := ?_) | refine WL.y (hy := pkT) (h := ?_))
    exact mg (by repeat (first | exact trivial | refine ⟨rfl, ?_⟩ | refine ⟨by rw [hb1]; rfl, ?_⟩)) (by repeat (first | exact SubL.nil | (apply SubL.cons; (repeat (first | exact At.here | apply At.there))) | exact SubL.refl _ | apply SubL.skip))
  refine WL.y (hy := mv) (h := ?_)
  apply brOr 5 25 30 (by exact rfl)
  · intro hb2
    refine un (h := ?_)
    refine WL.y (hy := (by first | exact fa | exact faE)) (h := ?_)
    refine un (h := ?_)
    refine WL.y (hy := (by first | exact ld | exact ldE)) (h := ?_)
    refine un (h := ?_)
    refine WL.y (hy := lenS) (h := ?_)
    refine un (h := ?_)
    refine WL.y (hy := gtr) (h := ?_)
    refine WL.y (hy := (by first | exact pkT | exact pkF)) (h := ?_)
    exact mg (by repeat (first | exact trivial | refine ⟨rfl, ?_⟩ | refine ⟨by rw [hb2]; rfl, ?_⟩)) (by repeat (first | exact SubL.nil | (apply SubL.cons; (repeat (first | exact At.here | apply At.there))) | exact SubL.refl _ | apply SubL.skip))
  · intro hb2
    repeat (first | refine un (h := ?_) | refine sk (h := ?_) | refine WL.y (hy := pkF) (h := ?_) | refine WL.y (hy := pkT) (h := ?_))
    exact mg (by repeat (first | exact trivial | refine ⟨rfl, ?_⟩ | refine ⟨by rw [hb2]; rfl, ?_⟩)) (by repeat (first | exact SubL.nil | (apply SubL.cons; (repeat (first | exact At.here | apply At.there))) | exact SubL.refl _ | apply SubL.skip))
  refine WL.y (hy := mv) (h := ?_)
  apply brOr 4 31 35 (by exact rfl)
  · intro hb3
    refine un (h := ?_)
    refine WL.y (hy := mv) (h := ?_)
    refine un (h := ?_)
    refine WL.y (hy := lenS) (h := ?_)
    refine un (h := ?_)
    refine WL.y (hy := gtr) (h := ?_)
    refine WL.y (hy := (by first | exact pkT | exact pkF)) (h := ?_)
    exact mg (by repeat (first | exact trivial | refine ⟨rfl, ?_⟩ | refine ⟨by rw [hb3]; rfl, ?_⟩)) (by repeat (first | exact SubL.nil | (apply SubL.cons; (repeat (first | exact At.here | apply At.there))) | exact SubL.refl _ | apply SubL.skip))
  · intro hb3
    repeat (first | refine un (h := ?_) | refine sk (h := ?_) | refine WL.y (hy := pkF) (h := ?_) | refine WL.y (hy := pkT) (h := ?_))
    exact mg (by repeat (first | exact trivial | refine ⟨rfl, ?_⟩ | refine ⟨by rw [hb3]; rfl, ?_⟩)) (by repeat (first | exact SubL.nil | (apply SubL.cons; (repeat (first | exact At.here | apply At.there))) | exact SubL.refl _ | apply SubL.skip))
  refine nl (h := ?_)
  refine q_seq (h := ?_)
  refine cd (by exact rfl) (fun h4 => ?_) (fun h4 => ?_)
  · skip
    have hE : areT x l = false := by rw [tHead_not] at h4; rw [areT, (by simpa using h4 : tHead x l.length = false)]; rfl
    refine sq (h := ?_)
    refine rg (h := ?_)
    refine WL.y (hy := asg) (h := ?_)
    refine nl (h := ?_)
    refine q_seq (h := ?_)
    refine rtn (h := ?_)
    refine q_then_ret (h := ?_)
    refine q_ret (hR := ?_)
    rw [hE]
    exact fun w hS => ⟨rfl, hS.sub (by repeat (first | exact SubL.nil | (apply SubL.cons; (repeat (first | exact At.here | apply At.there))) | exact SubL.refl _ | apply SubL.skip))⟩
  · skip
    have hH : tHead x l.length = true := by rw [tHead_not] at h4; simpa using h4
    refine skp (h := ?_)
    refine q_seq (h := ?_)
    refine sq (h := ?_)
    refine sq (h := ?_)
    refine rg (h := ?_)
    refine WL.y (hy := (by first | exact fa | exact faE)) (h := ?_)
    refine WL.y (hy := (by first | exact ld | exact ldE)) (h := ?_)
    refine clT (hc := T_ContainsInt (E := .ro pA 1 x.pl.length (enI x.pl)) (A := pA) (c := pc) (ws := x.pl) (fun w h => h) (g := 54) inferInstance [] [] [] (fun n => !isT n) hpn rfl (fun n hn => C0.tr _ (C_gate_are1 n))) (hs := Spl.cons (by repeat (first | exact At.here | apply At.there)) (Spl.app _ _)) (h := fun _ _ => ?_)
    refine nl (h := ?_)
    refine q_seq (h := ?_)
    refine cd (by exact rfl) (fun h5 => ?_) (fun h5 => ?_)
    · skip
      have hE : areT x l = false := by rw [pl_any] at h5; rw [areT, (by simpa using h5 : x.pl.all isT = false)]; simp
      refine sq (h := ?_)
      refine rg (h := ?_)
      refine WL.y (hy := asg) (h := ?_)
      refine nl (h := ?_)
      refine q_seq (h := ?_)
      refine rtn (h := ?_)
      refine q_then_ret (h := ?_)
      refine q_ret (hR := ?_)
      rw [hE]
      exact fun w hS => ⟨rfl, hS.sub (by repeat (first | exact SubL.nil | (apply SubL.cons; (repeat (first | exact At.here | apply At.there))) | exact SubL.refl _ | apply SubL.skip))⟩
    · skip
      have hP : x.pl.all isT = true := by rw [pl_any] at h5; simpa using h5
      have hA : areT x l = tksOk x l l.length := by rw [areT, hH, hP]; rfl
      refine skp (h := ?_)
      refine q_seq (h := ?_)
      refine sq (h := ?_)
      refine rg (h := ?_)
      refine mkm (h := fun b1 => ?_)
      refine WL.y (hy := asg) (h := ?_)
      refine nl (h := ?_)
      refine q_seq (h := ?_)
      refine sq (h := ?_)
      refine sq (h := ?_)
      refine rg (h := ?_)
      refine WL.y (hy := mv) (h := ?_)
      refine WL.y (hy := lenS) (h := ?_)
      refine WL.y (hy := mv) (h := ?_)
      refine nl (h := ?_)
      refine q_seq (h := ?_)
      refine bk (h := ?_)
      refine lp (X := KZ) (I := fun z => z.k ≤ l.length ∧ MapN z.es z.kv ∧ tksOk x l z.k = true ∧ ∀ id, lkn z.kv id = bif dupT l z.k id then some (.int .i64 1) else none) (le := fun z => [(2, .pointer (some ⟨b0, 0, none⟩)), (5, .map (some b1)), (40, .slice lA l.length lc), (41, .int .i64 l.length), (42, .int .i64 z.k)]) (Le := fun z => [.blk b0 39 (x.cells pA pc), .obj b1 (.map z.es z.cl), .ro pA 1 x.pl.length (enI x.pl), .ro lA 4 l.length (encTk l)]) (μ := fun z => l.length - z.k) ⟨0, #[], 0, []⟩ ⟨Nat.zero_le _, mapN0, rfl, fun id => rfl⟩ (by repeat (first | exact trivial | refine ⟨rfl, ?_⟩)) (by repeat (first | exact SubL.nil | (apply SubL.cons; (repeat (first | exact At.here | apply At.there))) | exact SubL.refl _ | apply SubL.skip)) (fun z hz => ?_)
      obtain ⟨hzk, hz1, hz2, hz3⟩ := hz
      refine sq (h := ?_)
      refine rg (h := ?_)
      refine WL.y (hy := lss) (h := ?_)
      refine nl (h := ?_)
      refine q_seq (h := ?_)
      refine sq (h := ?_)
      refine cd (by exact rfl) (fun h6 => ?_) (fun h6 => ?_)
      · skip
        have hkn : z.k < l.length := by simp only [decide_eq_true_eq] at h6; omega
        obtain ⟨t, ht1⟩ : ∃ t, l[z.k]? = some t := ⟨_, List.getElem?_eq_getElem hkn⟩
        have hte := encTk_at ht1
        have hcr := cntT_rng l z.k t.id
        have hlk : (lkn z.kv t.id).getD (.int .i64 0) = .int .i64 (cntT l z.k t.id) := by rw [hz3, cntT]; cases dupT l z.k t.id <;> rfl
        have hlk1 : (lkn (upn z.kv t.id (.int .i64 (cntT l z.k t.id + 1))) t.id).getD (.int .i64 0) = .int .i64 (cntT l z.k t.id + 1) := by rw [lkn_up, if_pos rfl]; rfl
        have hst := tksOk_succ (x := x) ht1
        refine skp (h := ?_)
        refine q_seq (h := ?_)
        refine sq (h := ?_)
        refine bk (h := ?_)
        refine sq (h := ?_)
        refine rg (h := ?_)
        refine WL.y (hy := ix (A := lA)) (h := ?_)
        refine WL.y (hy := ldEA (A := lA) (hk := hte)) (h := ?_)
        refine al (h := fun b2 => ?_)
        first | refine stA (h := ?_) | refine stEA (h := ?_)
        refine nl (h := ?_)
        refine q_seq (h := ?_)
        refine sq (h := ?_)
        refine sq (h := ?_)
        refine rg (h := ?_)
        refine WL.y (hy := mv) (h := ?_)
        refine WL.y (hy := (by first | exact fa | exact faE)) (h := ?_)
        refine WL.y (hy := (by first | exact ld | exact ldE)) (h := ?_)
        refine WL.y (hy := Yd.to (lkNI hz1) hlk) (h := ?_)
        refine WL.y (hy := addI) (h := ?_)
        refine mupN hz1 (h := fun es1 cl1 hm1 => ?_)
        refine nl (h := ?_)
        refine q_seq (h := ?_)
        refine sq (h := ?_)
        refine rg (h := ?_)
        refine WL.y (hy := mv) (h := ?_)
        refine WL.y (hy := (by first | exact fa | exact faE)) (h := ?_)
        refine WL.y (hy := (by first | exact ld | exact ldE)) (h := ?_)
        refine WL.y (hy := Yd.to (lkNI hm1) hlk1) (h := ?_)
        refine WL.y (hy := gtr) (h := ?_)
        refine nl (h := ?_)
        refine q_seq (h := ?_)
        refine cd (by exact rfl) (fun h7 => ?_) (fun h7 => ?_)
        · skip
          have hd : dupT l z.k t.id = true := by
            have h' : decide ((1 : Int) < cntT l z.k t.id + 1) = true := h7
            unfold cntT at h'
            cases hd : dupT l z.k t.id
            · rw [hd] at h'; simp at h'
            · rfl
          have hE : areT x l = false := by rw [hA]; exact tksOk_le (j := z.k + 1) (by rw [hst, hd]; simp) (by omega)
          refine sq (h := ?_)
          refine rg (h := ?_)
          refine WL.y (hy := asg) (h := ?_)
          refine nl (h := ?_)
          refine q_seq (h := ?_)
          refine rtn (h := ?_)
          refine q_then_ret (h := ?_)
          refine q_blk_ret (h := ?_)
          refine q_then_ret (h := ?_)
          refine q_then_ret (h := ?_)
          refine q_blk_ret (h := ?_)
          refine q_then_ret (h := ?_)
          refine q_ret (hR := ?_)
          rw [hE]
          exact fun w hS => ⟨rfl, hS.sub (by repeat (first | exact SubL.nil | (apply SubL.cons; (repeat (first | exact At.here | apply At.there))) | exact SubL.refl _ | apply SubL.skip))⟩
        · skip
          have hd : dupT l z.k t.id = false := by
            have h' : decide ((1 : Int) < cntT l z.k t.id + 1) = false := h7
            unfold cntT at h'
            cases hd : dupT l z.k t.id
            · rfl
            · rw [hd] at h'; simp at h'
          have hc0 : cntT l z.k t.id = 0 := by unfold cntT; rw [hd]; rfl
          refine skp (h := ?_)
          refine q_seq (h := ?_)
          refine sq (h := ?_)
          refine rg (h := ?_)
          refine WL.y (hy := (by first | exact fa | exact faE)) (h := ?_)
          refine WL.y (hy := (by first | exact ld | exact ldE)) (h := ?_)
          refine cl0 (hc := fun w hS => C_gate_within ..) (h := ?_)
          refine WL.y (hy := notB) (h := ?_)
          refine WL.y (hy := mv) (h := ?_)
          apply brOr 5 60 65 (by exact rfl)
          · intro hb8
            refine un (h := ?_)
            refine WL.y (hy := (by first | exact fa | exact faE)) (h := ?_)
            refine un (h := ?_)
            refine WL.y (hy := (by first | exact ld | exact ldE)) (h := ?_)
            refine un (h := ?_)
            refine cl0 (hc := fun w hS => C_gate_within ..) (h := ?_)
            refine un (h := ?_)
            refine WL.y (hy := notB) (h := ?_)
            refine WL.y (hy := (by first | exact pkT | exact pkF)) (h := ?_)
            exact mg (by repeat (first | exact trivial | refine ⟨rfl, ?_⟩ | refine ⟨by rw [hb8]; rfl, ?_⟩)) (by repeat (first | exact SubL.nil | (apply SubL.cons; (repeat (first | exact At.here | apply At.there))) | exact SubL.refl _ | apply SubL.skip))
          · intro hb8
            repeat (first | refine un (h := ?_) | refine sk (h := ?_) | refine WL.y (hy := pkF) (h := ?_) | refine WL.y (hy := pkT) (h := ?_))
            exact mg (by repeat (first | exact trivial | refine ⟨rfl, ?_⟩ | refine ⟨by rw [hb8]; rfl, ?_⟩)) (by repeat (first | exact SubL.nil | (apply SubL.cons; (repeat (first | exact At.here | apply At.there))) | exact SubL.refl _ | apply SubL.skip))
          refine WL.y (hy := mv) (h := ?_)
          apply brOr 9 66 75 (by exact rfl)
          · intro hb9
            refine un (h := ?_)
            refine WL.y (hy := (by first | exact fa | exact faE)) (h := ?_)
            refine un (h := ?_)
            refine WL.y (hy := (by first | exact ld | exact ldE)) (h := ?_)
            refine un (h := ?_)
            refine WL.y (hy := (by first | exact fa | exact faE)) (h := ?_)
            refine un (h := ?_)
            refine WL.y (hy := (by first | exact ld | exact ldE)) (h := ?_)
            refine un (h := ?_)
            refine WL.y (hy := lenS) (h := ?_)
            refine un (h := ?_)
            refine WL.y (hy := subI) (h := ?_)
            refine un (h := ?_)
            refine cl0 (hc := fun w hS => C_gate_within ..) (h := ?_)
            refine un (h := ?_)
            refine WL.y (hy := notB) (h := ?_)
            refine WL.y (hy := (by first | exact pkT | exact pkF)) (h := ?_)
            exact mg (by repeat (first | exact trivial | refine ⟨rfl, ?_⟩ | refine ⟨by rw [hb9]; rfl, ?_⟩)) (by repeat (first | exact SubL.nil | (apply SubL.cons; (repeat (first | exact At.here | apply At.there))) | exact SubL.refl _ | apply SubL.skip))
          · intro hb9
            repeat (first | refine un (h := ?_) | refine sk (h := ?_) | refine WL.y (hy := pkF) (h := ?_) | refine WL.y (hy := pkT) (h := ?_))
            exact mg (by repeat (first | exact trivial | refine ⟨rfl, ?_⟩ | refine ⟨by rw [hb9]; rfl, ?_⟩)) (by repeat (first | exact SubL.nil | (apply SubL.cons; (repeat (first | exact At.here | apply At.there))) | exact SubL.refl _ | apply SubL.skip))
          refine WL.y (hy := mv) (h := ?_)
          apply brOr 7 76 83 (by exact rfl)
          · intro hb10
            refine un (h := ?_)
            refine WL.y (hy := (by first | exact fa | exact faE)) (h := ?_)
            refine un (h := ?_)
            refine WL.y (hy := (by first | exact ld | exact ldE)) (h := ?_)
            refine un (h := ?_)
            refine WL.y (hy := (by first | exact fa | exact faE)) (h := ?_)
            refine un (h := ?_)
            refine WL.y (hy := (by first | exact ld | exact ldE)) (h := ?_)
            refine un (h := ?_)
            refine cl0 (hc := fun w hS => C_gate_within ..) (h := ?_)
            refine un (h := ?_)
            refine WL.y (hy := notB) (h := ?_)
            refine WL.y (hy := (by first | exact pkT | exact pkF)) (h := ?_)
            exact mg (by repeat (first | exact trivial | refine ⟨rfl, ?_⟩ | refine ⟨by rw [hb10]; rfl, ?_⟩)) (by repeat (first | exact SubL.nil | (apply SubL.cons; (repeat (first | exact At.here | apply At.there))) | exact SubL.refl _ | apply SubL.skip))
          · intro hb10
            repeat (first | refine un (h := ?_) | refine sk (h := ?_) | refine WL.y (hy := pkF) (h := ?_) | refine WL.y (hy := pkT) (h := ?_))
            exact mg (by repeat (first | exact trivial | refine ⟨rfl, ?_⟩ | refine ⟨by rw [hb10]; rfl, ?_⟩)) (by repeat (first | exact SubL.nil | (apply SubL.cons; (repeat (first | exact At.here | apply At.there))) | exact SubL.refl _ | apply SubL.skip))
          refine nl (h := ?_)
          refine q_seq (h := ?_)
          refine cd (by exact rfl) (fun h11 => ?_) (fun h11 => ?_)
          · skip
            have hE : areT x l = false := by rw [tk_not] at h11; rw [hA]; exact tksOk_le (j := z.k + 1) (by rw [hst, (by simpa using h11 : tkOk x t = false)]; simp) (by omega)
            refine sq (h := ?_)
            refine rg (h := ?_)
            refine WL.y (hy := asg) (h := ?_)
            refine nl (h := ?_)
            refine q_seq (h := ?_)
            refine rtn (h := ?_)
            refine q_blk_ret (h := ?_)
            refine q_then_ret (h := ?_)
            refine q_then_ret (h := ?_)
            refine q_blk_ret (h := ?_)
            refine q_then_ret (h := ?_)
            refine q_ret (hR := ?_)
            rw [hE]
            exact fun w hS => ⟨rfl, hS.sub (by repeat (first | exact SubL.nil | (apply SubL.cons; (repeat (first | exact At.here | apply At.there))) | exact SubL.refl _ | apply SubL.skip))⟩
          · skip
            have hto : tkOk x t = true := by rw [tk_not] at h11; simpa using h11
            refine skp (h := ?_)
            refine q_blk_norm (h := ?_)
            refine q_seq (h := ?_)
            refine rg (h := ?_)
            refine WL.y (hy := addI) (h := ?_)
            refine WL.y (hy := mv) (h := ?_)
            refine nl (h := ?_)
            refine rn (x := z) ⟨z.k + 1, es1, cl1, _⟩ ⟨by dsimp only; omega, hm1, by rw [hst, hz2, hd, hto]; rfl, fun id => by
              rw [lkn_up, hz3, dupT_succ ht1, hc0]
              by_cases e : id = t.id
              · rw [if_pos e, decide_eq_true e.symm, Bool.or_true]; rfl
              · rw [if_neg e, decide_eq_false (fun e' => e e'.symm), Bool.or_false]⟩ (by dsimp only; omega) (by repeat (first | exact trivial | refine ⟨rfl, ?_⟩)) (by repeat (first | exact SubL.nil | (apply SubL.cons; (repeat (first | exact At.here | apply At.there))) | exact SubL.refl _ | apply SubL.skip))
      · skip
        have hkn : z.k = l.length := by simp only [decide_eq_false_iff_not] at h6; omega
        have hE : areT x l = true := by rw [hA, ← hkn]; exact hz2
        refine et (h := ?_)
        refine q_then_exit (h := ?_)
        refine q_then_exit (h := ?_)
        refine q_blk_hit (h := ?_)
        refine q_seq (h := ?_)
        refine sq (h := ?_)
        refine rg (h := ?_)
        refine WL.y (hy := asg) (h := ?_)
        refine nl (h := ?_)
        refine q_seq (h := ?_)
        refine rtn (h := ?_)
        refine q_ret (hR := ?_)
        rw [hE]
        exact fun w hS => ⟨rfl, hS.sub (by repeat (first | exact SubL.nil | (apply SubL.cons; (repeat (first | exact At.here | apply At.there))) | exact SubL.refl _ | apply SubL.skip))⟩

/-! #### refunds -/
def rfV (x : Tm) (t : Tkt) (n : Int) : Int := max 0 ((bif decide (n < x.short) then t.price else bif decide (n < x.long) then t.price / 2 else 0) - t.paid)
theorem C_gate_refund (x : Tm) (l : List Tkt) (pA : Option Addr) (pc : Nat) (t : Tkt) (n : Int) (ht : TOk x l) (hm : t ∈ l) (hn : x.pl[t.day.toNat]? = some n) (w : World) (h : Rd w pA 1 x.pl.length (enI x.pl)) : C0 Try.prog 41 [x.val pA pc, t.val] w (.int .i64 (rfV x t n)) := by
  obtain ⟨h1, h2, h3, h4⟩ := ht.tk t hm
  have hpl := ht.np
  obtain ⟨k, hk⟩ : ∃ k : Nat, t.day = k := ⟨t.day.toNat, by omega⟩
  rw [hk, Int.toNat_natCast] at hn
  have hne := enI_at hn
  rw [show t.val = .agg #[.int .i64 t.id, .int .i64 t.price, .int .i64 (k : Int), .int .i64 t.paid] by rw [← hk]]
  refine ⟨en Try.func41 Try.ntmps41 ((St.init w).share (e := .ro pA 1 x.pl.length (enI x.pl)) h rfl rfl rfl) (h := fun F => ?_)⟩
  refine sq (h := ?_)
  refine rg (h := ?_)
  refine bxA (h := fun b0 => ?_)
  refine bxA (h := fun b1 => ?_)
  refine WL.y (hy := asg) (h := ?_)
  refine nl (h := ?_)
  refine q_seq (h := ?_)
  refine sq (h := ?_)
  refine rg (h := ?_)
  refine WL.y (hy := asg) (h := ?_)
  refine nl (h := ?_)
  refine q_seq (h := ?_)
  refine sq (h := ?_)
  refine sq (h := ?_)
  refine rg (h := ?_)
  refine WL.y (hy := (by first | exact fa | exact faE)) (h := ?_)
  refine WL.y (hy := (by first | exact ld | exact ldE)) (h := ?_)
  refine WL.y (hy := (by first | exact fa | exact faE)) (h := ?_)
  refine WL.y (hy := (by first | exact ld | exact ldE)) (h := ?_)
  refine WL.y (hy := ix (A := pA) (m := x.pl.length)) (h := ?_)
  refine WL.y (hy := ldE (A := pA) (hk := hne)) (h := ?_)
  refine WL.y (hy := asg) (h := ?_)
  refine nl (h := ?_)
  refine q_seq (h := ?_)
  refine bk (h := ?_)
  refine sq (h := ?_)
  refine rg (h := ?_)
  refine WL.y (hy := mv) (h := ?_)
  refine WL.y (hy := (by first | exact fa | exact faE)) (h := ?_)
  refine WL.y (hy := (by first | exact ld | exact ldE)) (h := ?_)
  refine WL.y (hy := lss) (h := ?_)
  refine WL.y (hy := asg) (h := ?_)
  refine nl (h := ?_)
  refine q_seq (h := ?_)
  refine cd (by exact rfl) (fun h0 => ?_) (fun h0 => ?_)
  · skip
    have hE : rfV x t n = max 0 (t.price - t.paid) := by rw [rfV, h0]; rfl
    refine rg (h := ?_)
    refine WL.y (hy := (by first | exact fa | exact faE)) (h := ?_)
    refine WL.y (hy := (by first | exact ld | exact ldE)) (h := ?_)
    refine WL.y (hy := asg) (h := ?_)
    refine nl (h := ?_)
    refine q_blk_norm (h := ?_)
    refine q_seq (h := ?_)
    refine sq (h := ?_)
    refine rg (h := ?_)
    refine WL.y (hy := mv) (h := ?_)
    refine WL.y (hy := (by first | exact fa | exact faE)) (h := ?_)
    refine WL.y (hy := (by first | exact ld | exact ldE)) (h := ?_)
    refine WL.y (hy := subI) (h := ?_)
    refine WL.y (hy := maxI) (h := ?_)
    refine WL.y (hy := asg) (h := ?_)
    refine nl (h := ?_)
    refine q_seq (h := ?_)
    refine rtn (h := ?_)
    refine q_ret (hR := ?_)
    rw [hE]
    exact fun w hS => ⟨rfl, hS.sub (by repeat (first | exact SubL.nil | (apply SubL.cons; (repeat (first | exact At.here | apply At.there))) | exact SubL.refl _ | apply SubL.skip))⟩
  · skip
    skip
    refine sq (h := ?_)
    refine rg (h := ?_)
    refine WL.y (hy := mv) (h := ?_)
    refine WL.y (hy := (by first | exact fa | exact faE)) (h := ?_)
    refine WL.y (hy := (by first | exact ld | exact ldE)) (h := ?_)
    refine WL.y (hy := lss) (h := ?_)
    refine WL.y (hy := asg) (h := ?_)
    refine nl (h := ?_)
    refine q_seq (h := ?_)
    refine cd (by exact rfl) (fun h1 => ?_) (fun h1 => ?_)
    · skip
      have hE : rfV x t n = max 0 (t.price / 2 - t.paid) := by rw [rfV]; simp only [*]; rfl
      refine rg (h := ?_)
      refine WL.y (hy := (by first | exact fa | exact faE)) (h := ?_)
      refine WL.y (hy := (by first | exact ld | exact ldE)) (h := ?_)
      refine WL.y (hy := quoI) (h := ?_)
      refine WL.y (hy := asg) (h := ?_)
      refine nl (h := ?_)
      refine q_blk_norm (h := ?_)
      refine q_seq (h := ?_)
      refine sq (h := ?_)
      refine rg (h := ?_)
      refine WL.y (hy := mv) (h := ?_)
      refine WL.y (hy := (by first | exact fa | exact faE)) (h := ?_)
      refine WL.y (hy := (by first | exact ld | exact ldE)) (h := ?_)
      refine WL.y (hy := subI) (h := ?_)
      refine WL.y (hy := maxI) (h := ?_)
      refine WL.y (hy := asg) (h := ?_)
      refine nl (h := ?_)
      refine q_seq (h := ?_)
      refine rtn (h := ?_)
      refine q_ret (hR := ?_)
      rw [hE]
      exact fun w hS => ⟨rfl, hS.sub (by repeat (first | exact SubL.nil | (apply SubL.cons; (repeat (first | exact At.here | apply At.there))) | exact SubL.refl _ | apply SubL.skip))⟩
    · skip
      have hE : rfV x t n = max 0 (0 - t.paid) := by rw [rfV]; simp only [*]; rfl
      refine skp (h := ?_)
      refine q_blk_norm (h := ?_)
      refine q_seq (h := ?_)
      refine sq (h := ?_)
      refine rg (h := ?_)
      refine WL.y (hy := mv) (h := ?_)
      refine WL.y (hy := (by first | exact fa | exact faE)) (h := ?_)
      refine WL.y (hy := (by first | exact ld | exact ldE)) (h := ?_)
      refine WL.y (hy := subI) (h := ?_)
      refine WL.y (hy := maxI) (h := ?_)
      refine WL.y (hy := asg) (h := ?_)
      refine nl (h := ?_)
      refine q_seq (h := ?_)
      refine rtn (h := ?_)
      refine q_ret (hR := ?_)
      rw [hE]
      exact fun w hS => ⟨rfl, hS.sub (by repeat (first | exact SubL.nil | (apply SubL.cons; (repeat (first | exact At.here | apply At.there))) | exact SubL.refl _ | apply SubL.skip))⟩

def rfsTo (x : Tm) (l : List Tkt) : Nat → List Int
  | 0 => []
  | k + 1 => match l[k]? with
    | some t => rfsTo x l k ++ [rfV x t ((x.pl[t.day.toNat]?).getD 0)]
    | none => rfsTo x l k
def rfsV (x : Tm) (l : List Tkt) : List Int := rfsTo x l l.length
theorem rfsTo_len (x : Tm) (l : List Tkt) : ∀ k, k ≤ l.length → (rfsTo x l k).length = k
  | 0, _ => rfl
  | k + 1, hk => by
    have hx : l[k]? = some l[k] := List.getElem?_eq_getElem (by omega)
    have ih := rfsTo_len x l k (by omega)
    rw [rfsTo, hx]; simp [ih]
structure RfR where
  (A : Option Addr) (n c : Nat) (xs : List Int) (e : Int)
structure RfZ where
  (k : Nat) (A : Option Addr) (c : Nat)
def rfOk (x : Tm) (l : List Tkt) (r : RfR) : Prop := r.xs.length = r.n ∧ r.n ≤ 40 ∧ r.e = (bif areT x l then 0 else 111) ∧ r.xs = bif areT x l then rfsV x l else []
theorem rf_day {x : Tm} {l : List Tkt} (h : TOk x l) {t : Tkt} (ht : t ∈ l) : ∃ n, x.pl[t.day.toNat]? = some n := by
  have := (h.tk t ht).2.2.1
  exact ⟨_, List.getElem?_eq_getElem (by omega)⟩
set_option maxHeartbeats 1000000 in
theorem C_gate_Refund (x : Tm) (l : List Tkt) (pA lA : Option Addr) (pc lc : Nat) (w : World) (h : TRd w x l pA lA) : CR Try.prog 19 [x.val pA pc, .slice lA l.length lc] w (rfOk x l) (fun r => .tuple #[.slice r.A r.n r.c, .int .i64 r.e]) (fun r => [.own r.A r.c 3 1 r.n (enI r.xs)]) := by
  obtain ⟨hp, hl, hpn, hln⟩ := h
  refine ⟨en Try.func19 Try.ntmps19 (((St.init w).share (e := .ro pA 1 x.pl.length (enI x.pl)) hp rfl rfl rfl).share (e := .ro lA 4 l.length (encTk l)) hl rfl rfl rfl) (h := fun F => ?_)⟩
  refine sq (h := ?_)
  refine rg (h := ?_)
  refine bxA (h := fun b0 => ?_)
  refine WL.y (hy := asg) (h := ?_)
  refine WL.y (hy := asg) (h := ?_)
  refine nl (h := ?_)
  refine q_seq (h := ?_)
  refine sq (h := ?_)
  refine sq (h := ?_)
  refine rg (h := ?_)
  refine WL.y (hy := (by first | exact ldA | exact ldEA)) (h := ?_)
  refine WL.y (hy := mv) (h := ?_)
  refine cl0 (hc := fun w hS => C_gate_areTickets x l pA lA pc lc w ⟨hS.get, hS.get, hpn, hln⟩) (h := ?_)
  refine WL.y (hy := notB) (h := ?_)
  refine nl (h := ?_)
  refine q_seq (h := ?_)
  refine cd (by exact rfl) (fun h0 => ?_) (fun h0 => ?_)
  · skip
    have hb : areT x l = false := by simpa using h0
    refine WC.nilOwn 3 1 (h := ?_)
    refine sq (h := ?_)
    refine rg (h := ?_)
    refine WL.y (hy := asg) (h := ?_)
    refine WL.y (hy := asg) (h := ?_)
    refine nl (h := ?_)
    refine q_seq (h := ?_)
    refine rtn (h := ?_)
    refine q_then_ret (h := ?_)
    refine q_ret (hR := ?_)
    exact fun w hS => ⟨⟨none, 0, 0, [], 111⟩, ⟨rfl, Nat.zero_le _, by rw [hb]; rfl, by rw [hb]; rfl⟩, rfl, hS.sub (by repeat (first | exact SubL.nil | (apply SubL.cons; (repeat (first | exact At.here | apply At.there))) | exact SubL.refl _ | apply SubL.skip))⟩
  · skip
    have hb : areT x l = true := by simpa using h0
    have ht := t_ok hb
    have hl40 := ht.nl
    refine WC.nilOwn 3 1 (h := ?_)
    refine skp (h := ?_)
    refine q_seq (h := ?_)
    refine sq (h := ?_)
    refine rg (h := ?_)
    refine WL.y (hy := asg) (h := ?_)
    refine nl (h := ?_)
    refine q_seq (h := ?_)
    refine sq (h := ?_)
    refine sq (h := ?_)
    refine rg (h := ?_)
    refine WL.y (hy := mv) (h := ?_)
    refine WL.y (hy := lenS) (h := ?_)
    refine WL.y (hy := mv) (h := ?_)
    refine nl (h := ?_)
    refine q_seq (h := ?_)
    refine bk (h := ?_)
    refine lp (X := RfZ) (I := fun z => z.k ≤ l.length) (le := fun z => [(2, .pointer (some ⟨b0, 0, none⟩)), (6, .slice z.A (rfsTo x l z.k).length z.c), (13, .slice lA l.length lc), (14, .int .i64 l.length), (15, .int .i64 z.k)]) (Le := fun z => [.blk b0 39 (x.cells pA pc), .own z.A z.c 3 1 (rfsTo x l z.k).length (enI (rfsTo x l z.k)), .ro pA 1 x.pl.length (enI x.pl), .ro lA 4 l.length (encTk l)]) (μ := fun z => l.length - z.k) ⟨0, none, 0⟩ (Nat.zero_le _) (by repeat (first | exact trivial | refine ⟨rfl, ?_⟩)) (by repeat (first | exact SubL.nil | (apply SubL.cons; (repeat (first | exact At.here | apply At.there))) | exact SubL.refl _ | apply SubL.skip)) (fun z hz => ?_)
    refine sq (h := ?_)
    refine rg (h := ?_)
    refine WL.y (hy := lss) (h := ?_)
    refine nl (h := ?_)
    refine q_seq (h := ?_)
    refine sq (h := ?_)
    refine cd (by exact rfl) (fun h1 => ?_) (fun h1 => ?_)
    · skip
      have hkn : z.k < l.length := by simp only [decide_eq_true_eq] at h1; omega
      obtain ⟨t, ht1⟩ : ∃ t, l[z.k]? = some t := ⟨_, List.getElem?_eq_getElem hkn⟩
      have hte := encTk_at ht1
      obtain ⟨m, hm⟩ := rf_day ht (List.mem_of_getElem? ht1)
      have hl1 : rfsTo x l (z.k + 1) = rfsTo x l z.k ++ [rfV x t m] := by rw [rfsTo, ht1]; dsimp only; rw [hm]; rfl
      have hl2 : enI (rfsTo x l (z.k + 1)) = enI (rfsTo x l z.k) ++ [[.int .i64 (rfV x t m)]] := by rw [hl1, enI_app]
      have hln0 := rfsTo_len x l z.k (by omega)
      have hln1 : (rfsTo x l (z.k + 1)).length = (rfsTo x l z.k).length + 1 := by simp [hl1]
      refine skp (h := ?_)
      refine q_seq (h := ?_)
      refine sq (h := ?_)
      refine bk (h := ?_)
      refine sq (h := ?_)
      refine rg (h := ?_)
      refine WL.y (hy := ix (A := lA)) (h := ?_)
      refine WL.y (hy := ldEA (A := lA) (hk := hte)) (h := ?_)
      refine al (h := fun b1 => ?_)
      first | refine stA (h := ?_) | refine stEA (h := ?_)
      refine nl (h := ?_)
      refine q_seq (h := ?_)
      refine rg (h := ?_)
      refine WL.y (hy := mv) (h := ?_)
      refine WL.y (hy := (by first | exact ldA | exact ldEA)) (h := ?_)
      refine WL.y (hy := (by first | exact ldA | exact ldEA)) (h := ?_)
      refine cl0 (hc := fun w hS => C_gate_refund x l pA pc t m ht (List.mem_of_getElem? ht1) hm w hS.get) (h := ?_)
      refine bs (h := fun b2 => ?_)
      first | refine ap (h := fun A1 c1 => ?_) | refine ap0 (h := fun A1 c1 => ?_)
      refine WL.y (hy := asg) (h := ?_)
      refine nl (h := ?_)
      refine q_blk_norm (h := ?_)
      refine q_seq (h := ?_)
      refine rg (h := ?_)
      refine WL.y (hy := addI) (h := ?_)
      refine WL.y (hy := mv) (h := ?_)
      refine nl (h := ?_)
      refine rn (x := z) ⟨z.k + 1, _, _⟩ (by dsimp only; omega) (by dsimp only; omega) (by dsimp only; rw [hln1]; repeat (first | exact trivial | refine ⟨rfl, ?_⟩)) (by dsimp only; rw [hl2, hln1]; repeat (first | exact SubL.nil | (apply SubL.cons; (repeat (first | exact At.here | apply At.there))) | exact SubL.refl _ | apply SubL.skip))
    · skip
      have hkn : z.k = l.length := by simp only [decide_eq_false_iff_not] at h1; omega
      rw [hkn]
      refine et (h := ?_)
      refine q_then_exit (h := ?_)
      refine q_then_exit (h := ?_)
      refine q_blk_hit (h := ?_)
      refine q_seq (h := ?_)
      refine sq (h := ?_)
      refine rg (h := ?_)
      refine WL.y (hy := mv) (h := ?_)
      refine WL.y (hy := asg) (h := ?_)
      refine WL.y (hy := asg) (h := ?_)
      refine nl (h := ?_)
      refine q_seq (h := ?_)
      refine rtn (h := ?_)
      refine q_ret (hR := ?_)
      exact fun w hS => ⟨⟨z.A, _, z.c, rfsTo x l l.length, 0⟩, ⟨rfl, by have := rfsTo_len x l l.length (Nat.le_refl _); dsimp only; omega, by rw [hb]; rfl, by rw [hb]; rfl⟩, rfl, hS.sub (by repeat (first | exact SubL.nil | (apply SubL.cons; (repeat (first | exact At.here | apply At.there))) | exact SubL.refl _ | apply SubL.skip))⟩
def sumI : List Int → Int
  | [] => 0
  | x :: xs => x + sumI xs
theorem sumI_take {xs : List Int} : ∀ {k : Nat} {x : Int}, xs[k]? = some x → sumI (xs.take (k + 1)) = sumI (xs.take k) + x := by
  induction xs with
  | nil => intro k x h; simp at h
  | cons y ys ih =>
    intro k x h
    cases k with
    | zero => simp only [List.getElem?_cons_zero, Option.some.injEq] at h; subst h; simp [sumI]
    | succ k =>
      have := ih (k := k) (x := x) (by simpa using h)
      simp only [List.take_succ_cons, sumI, this]
      omega
def totV (x : Tm) (l : List Tkt) : Int := bif areT x l then sumI (rfsV x l) else 0
theorem rfV_rng {x : Tm} {l : List Tkt} (h : TOk x l) {t : Tkt} (ht : t ∈ l) (n : Int) : 0 ≤ rfV x t n ∧ rfV x t n + t.paid ≤ t.price := by
  have := h.tk t ht
  unfold rfV
  cases decide (n < x.short) <;> cases decide (n < x.long) <;> simp only [cond_true, cond_false] <;> omega
theorem rfsTo_mem {x : Tm} {l : List Tkt} (h : TOk x l) : ∀ k, ∀ n ∈ rfsTo x l k, 0 ≤ n ∧ n ≤ 1000000
  | 0, n, hn => by simp [rfsTo] at hn
  | k + 1, n, hn => by
    rw [rfsTo] at hn
    cases hk : l[k]? with
    | none => rw [hk] at hn; exact rfsTo_mem h k n hn
    | some t =>
      rw [hk] at hn
      rcases List.mem_append.1 hn with hn | hn
      · exact rfsTo_mem h k n hn
      · simp only [List.mem_singleton] at hn
        have ht := List.mem_of_getElem? hk
        have := rfV_rng h ht ((x.pl[t.day.toNat]?).getD 0)
        have := h.tk t ht
        omega
theorem sumI_rng {xs : List Int} (h : ∀ n ∈ xs, 0 ≤ n ∧ n ≤ 1000000) : 0 ≤ sumI xs ∧ sumI xs ≤ 1000000 * xs.length := by
  induction xs with
  | nil => simp [sumI]
  | cons y ys ih =>
    have := ih fun n hn => h n (List.mem_cons_of_mem _ hn)
    have := h y (List.mem_cons_self ..)
    simp only [sumI, List.length_cons]
    omega
set_option maxHeartbeats 1000000 in
theorem C_gate_Total (x : Tm) (l : List Tkt) (pA lA : Option Addr) (pc lc : Nat) (w : World) (h : TRd w x l pA lA) : C0 Try.prog 21 [x.val pA pc, .slice lA l.length lc] w (.tuple #[.int .i64 (totV x l), .int .i64 (bif areT x l then 0 else 111)]) := by
  obtain ⟨hp, hl, hpn, hln⟩ := h
  refine ⟨en Try.func21 Try.ntmps21 (((St.init w).share (e := .ro pA 1 x.pl.length (enI x.pl)) hp rfl rfl rfl).share (e := .ro lA 4 l.length (encTk l)) hl rfl rfl rfl) (h := fun F => ?_)⟩
  refine sq (h := ?_)
  refine rg (h := ?_)
  refine bxA (h := fun b0 => ?_)
  refine WL.y (hy := asg) (h := ?_)
  refine WL.y (hy := asg) (h := ?_)
  refine nl (h := ?_)
  refine q_seq (h := ?_)
  refine sq (h := ?_)
  refine rg (h := ?_)
  refine WL.y (hy := (by first | exact ldA | exact ldEA)) (h := ?_)
  refine WL.y (hy := mv) (h := ?_)
  refine cl (hc := fun w hS => C_gate_Refund x l pA lA pc lc w ⟨hS.get, hS.get, hpn, hln⟩) (h := fun x0 hx0 => ?_)
  obtain ⟨hx1, hx2, hx3, hx4⟩ := hx0
  have hmem : ∀ n ∈ x0.xs, 0 ≤ n ∧ n ≤ 1000000 := by
    rw [hx4]; cases hb : areT x l
    · intro n hn; cases hn
    · exact rfsTo_mem (t_ok hb) _
  refine WL.y (hy := mv) (h := ?_)
  refine WL.y (hy := ex) (h := ?_)
  refine WL.y (hy := ex) (h := ?_)
  refine WL.y (hy := asg) (h := ?_)
  refine WL.y (hy := asg) (h := ?_)
  refine nl (h := ?_)
  refine q_seq (h := ?_)
  refine sq (h := ?_)
  refine rg (h := ?_)
  refine WL.y (hy := asg) (h := ?_)
  refine nl (h := ?_)
  refine q_seq (h := ?_)
  refine sq (h := ?_)
  refine sq (h := ?_)
  refine rg (h := ?_)
  refine WL.y (hy := mv) (h := ?_)
  refine WL.y (hy := lenS) (h := ?_)
  refine WL.y (hy := mv) (h := ?_)
  refine nl (h := ?_)
  refine q_seq (h := ?_)
  refine bk (h := ?_)
  refine lp (X := IZ) (I := fun z => z.k ≤ x0.n) (le := fun z => [(7, .int .i64 x0.e), (8, .int .i64 (sumI (x0.xs.take z.k))), (17, .slice x0.A x0.n x0.c), (18, .int .i64 x0.n), (19, .int .i64 z.k)]) (Le := fun z => [.own x0.A x0.c 3 1 x0.n (enI x0.xs)]) (μ := fun z => x0.n - z.k) ⟨0⟩ (Nat.zero_le _) (by repeat (first | exact trivial | refine ⟨rfl, ?_⟩)) (by repeat (first | exact SubL.nil | (apply SubL.cons; (repeat (first | exact At.here | apply At.there))) | exact SubL.refl _ | apply SubL.skip)) (fun z hz => ?_)
  refine sq (h := ?_)
  refine rg (h := ?_)
  refine WL.y (hy := lss) (h := ?_)
  refine nl (h := ?_)
  refine q_seq (h := ?_)
  refine sq (h := ?_)
  refine cd (by exact rfl) (fun h0 => ?_) (fun h0 => ?_)
  · skip
    have hkn : z.k < x0.xs.length := by simp only [decide_eq_true_eq] at h0; omega
    obtain ⟨v, hv⟩ : ∃ v, x0.xs[z.k]? = some v := ⟨_, List.getElem?_eq_getElem hkn⟩
    have hve := enI_at hv
    have hst := sumI_take hv
    have hvr := hmem v (List.mem_of_getElem? hv)
    have hsr := sumI_rng (xs := x0.xs.take z.k) (fun n hn => hmem n (List.mem_of_mem_take hn))
    rw [List.length_take] at hsr
    refine skp (h := ?_)
    refine q_seq (h := ?_)
    refine sq (h := ?_)
    refine bk (h := ?_)
    refine sq (h := ?_)
    refine rg (h := ?_)
    refine WL.y (hy := ix (A := x0.A) (m := x0.n)) (h := ?_)
    refine WL.y (hy := ldE (A := x0.A) (hk := hve)) (h := ?_)
    refine WL.y (hy := asg) (h := ?_)
    refine nl (h := ?_)
    refine q_seq (h := ?_)
    refine rg (h := ?_)
    refine WL.y (hy := mv) (h := ?_)
    refine WL.y (hy := mv) (h := ?_)
    refine WL.y (hy := addI) (h := ?_)
    refine WL.y (hy := asg) (h := ?_)
    refine nl (h := ?_)
    refine q_blk_norm (h := ?_)
    refine q_seq (h := ?_)
    refine rg (h := ?_)
    refine WL.y (hy := addI) (h := ?_)
    refine WL.y (hy := mv) (h := ?_)
    refine nl (h := ?_)
    refine rn (x := z) ⟨z.k + 1⟩ (by dsimp only; omega) (by dsimp only; omega) (by dsimp only; rw [hst]; repeat (first | exact trivial | refine ⟨rfl, ?_⟩)) (by repeat (first | exact SubL.nil | (apply SubL.cons; (repeat (first | exact At.here | apply At.there))) | exact SubL.refl _ | apply SubL.skip))
  · skip
    have hkn : z.k = x0.n := by simp only [decide_eq_false_iff_not] at h0; omega
    have hs : sumI (x0.xs.take z.k) = totV x l := by rw [hkn, ← hx1, List.take_length, totV, hx4]; cases areT x l <;> rfl
    rw [hs]
    refine et (h := ?_)
    refine q_then_exit (h := ?_)
    refine q_then_exit (h := ?_)
    refine q_blk_hit (h := ?_)
    refine q_seq (h := ?_)
    refine sq (h := ?_)
    refine rg (h := ?_)
    refine WL.y (hy := mv) (h := ?_)
    refine WL.y (hy := mv) (h := ?_)
    refine WL.y (hy := asg) (h := ?_)
    refine WL.y (hy := asg) (h := ?_)
    refine nl (h := ?_)
    refine q_seq (h := ?_)
    refine rtn (h := ?_)
    refine q_ret (hR := ?_)
    rw [← hx3]
    exact fun w hS => ⟨rfl, hS.sub (by repeat (first | exact SubL.nil | (apply SubL.cons; (repeat (first | exact At.here | apply At.there))) | exact SubL.refl _ | apply SubL.skip))⟩
end Go.Proofs.Ytbcclgfobiholaa
