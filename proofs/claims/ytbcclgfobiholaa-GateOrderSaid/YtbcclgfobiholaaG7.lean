/- Walks of gate, seven: groups pass. -/
import Derived.Test.YtbcclgfobiholaaG6
namespace Go.Proofs.Ytbcclgfobiholaa
open Go Go.RowKit

theorem T_join (q : Qu) (a : QA) (x : CA) (ord : List Int) (s : Cr) (b : Nat) (minute : Int) (hin : ∀ i ∈ ord, 0 ≤ i ∧ i < q.gs.length) (hws : ∀ i ∈ s.ws, 0 ≤ i ∧ i < q.gs.length) (hpw : firstN s ≤ s.ws.length) (hl : s.ws.length ≤ 1000 ∧ ord.length ≤ 1000) :
    Tr Try.prog 56 [.pointer (some ⟨b, 0, none⟩), .int .i64 minute] (joinL q a x ord s b) (fun _ : CA => True) (fun _ => .tuple #[]) (fun x' => joinL q a x' ord (joinV q.gs ord minute s) b) := by
  refine ⟨fun w0 w R hst => ?_⟩
  have hpull : St w0 w (wtE 3 x.wA s.ws.length x.wc s.ws :: (.blk b 85 (crC q a x ord s) :: .own x.oA x.oc 3 1 ord.length (enI ord) :: .own x.iA x.ic 3 1 s.inn.length (enI s.inn) :: .ro a.gA 4 q.gs.length (encPt q.gs) :: R)) := hst.sub (by repeat (first | exact SubL.nil | (apply SubL.cons; (repeat (first | exact At.here | apply At.there))) | exact SubL.refl _ | apply SubL.skip))
  by_cases h0 : s.ws.drop (firstN s) = []
  · have hfn : firstN s = s.ws.length := by
      have h1 := congrArg List.length h0
      rw [List.length_drop] at h1
      simp only [List.length_nil] at h1
      omega
    have hok := hpull.ok (wtE 3 x.wA s.ws.length x.wc s.ws) (by simp)
    refine (T_joinE q a x ord s b minute hin hws hpw hl h0 ?_ ?_).out w0 w R hst
    · rcases hok.2 with ⟨_, h1, h2⟩ | ⟨g, pre, sp, _, _, h1, _⟩
      · omega
      · exact h1
    · intro hn
      rcases hok.2 with ⟨_, h1, h2⟩ | ⟨g, pre, sp, h1, _⟩
      · exact ⟨by omega, h2⟩
      · rw [hn] at h1; cases h1
  · have hlt : firstN s < s.ws.length := by
      rcases Nat.lt_or_ge (firstN s) s.ws.length with h | h
      · exact h
      · exact absurd (List.drop_of_length_le h) h0
    rcases hpull.wtOpen with ⟨_, _, _, hnil⟩ | ⟨g, pre, sp, hA, h1, h2, h3, h4, hb⟩
    · rw [hnil] at h0; simp at h0
    · have hsplit : pre ++ (s.ws.map vI ++ sp) = (pre ++ (s.ws.take (firstN s)).map vI) ++ ((s.ws.drop (firstN s)).map vI ++ sp) := by
        rw [List.append_assoc, ← List.append_assoc ((s.ws.take (firstN s)).map vI), ← List.map_append, List.take_append_drop]
      rw [hsplit] at hb
      exact (T_joinF q a x ord s b minute hin hws hpw hl g pre sp hA hlt h2 h3 h4).out w0 w R (hb.sub (by repeat (first | exact SubL.nil | (apply SubL.cons; (repeat (first | exact At.here | apply At.there))) | exact SubL.refl _ | apply SubL.skip)))
def szV (gs : List Pt) (i : Int) : Int := match gs[i.toNat]? with
  | some g => g.size
  | none => 0
def ppV (gs : List Pt) (i : Int) (s : Cr) : Int := bif decide (s.passing = 0) then szV gs i else s.passing
def frV (gs : List Pt) (i : Int) (s : Cr) : Int := bif decide (s.passing = 0) then s.free - szV gs i else s.free
/-- What is left of the rate, and the crowd, when the first group of the queue passes. -/
def passOne (gs : List Pt) (minute rate i : Int) (t : List Int) (s : Cr) : Cr :=
  bif decide (ppV gs i s - min rate (ppV gs i s) = 0) then ⟨frV gs i s, ppV gs i s - min rate (ppV gs i s), t, s.inn.set i.toNat minute⟩ else { s with free := frV gs i s, passing := ppV gs i s - min rate (ppV gs i s) }
def stopV (gs : List Pt) (i : Int) (s : Cr) : Bool := decide (s.passing = 0) && decide (s.free < szV gs i)
def passV (gs : List Pt) (minute : Int) : Nat → Int → Cr → Cr
  | 0, _, s => s
  | f + 1, rate, s => match s.ws with
    | [] => s
    | i :: t => bif decide (0 < rate) && !stopV gs i s then passV gs minute f (rate - min rate (ppV gs i s)) (passOne gs minute rate i t s) else s
theorem passV_stop {gs : List Pt} {minute rate : Int} {s : Cr} (h : rate ≤ 0 ∨ s.ws = []) (f : Nat) : passV gs minute f rate s = s := by
  cases f with
  | zero => rfl
  | succ f =>
    rw [passV]
    rcases h with h | h
    · cases s.ws with
      | nil => rfl
      | cons i t => rw [decide_eq_false (by omega)]; rfl
    · rw [h]
theorem passV_halt {gs : List Pt} {minute rate i : Int} {t : List Int} {s : Cr} (h : s.ws = i :: t) (hs : stopV gs i s = true) (f : Nat) : passV gs minute f rate s = s := by
  cases f with
  | zero => rfl
  | succ f => rw [passV, h]; simp only [hs]; rw [Bool.not_true, Bool.and_false]; rfl
theorem passV_go {gs : List Pt} {minute rate i : Int} {t : List Int} {s : Cr} (h : s.ws = i :: t) (hr : 0 < rate) (hs : stopV gs i s = false) (f : Nat) : passV gs minute (f + 1) rate s = passV gs minute f (rate - min rate (ppV gs i s)) (passOne gs minute rate i t s) := by
  rw [passV, h]; simp only [hs]; rw [decide_eq_true hr]; rfl
structure Cr.Ok (q : Qu) (s : Cr) : Prop where
  ws : ∀ i ∈ s.ws, 0 ≤ i ∧ i < q.gs.length
  inn : s.inn.length = q.gs.length
  p : 0 ≤ s.passing ∧ s.passing ≤ 20
  f : 0 ≤ s.free ∧ s.free ≤ 1000000000000
theorem szV_rng {q : Qu} (hq : q.Ok) {i : Int} (hi : 0 ≤ i ∧ i < q.gs.length) : 1 ≤ szV q.gs i ∧ szV q.gs i ≤ 20 := by
  obtain ⟨g, hg⟩ : ∃ g, q.gs[i.toNat]? = some g := ⟨_, List.getElem?_eq_getElem (by omega)⟩
  rw [szV, hg]
  have := pt_rng (hq.pt g (List.mem_of_getElem? hg))
  exact this.2.2.1
theorem passOne_ok {q : Qu} (hq : q.Ok) {minute rate i : Int} {t : List Int} {s : Cr} (h : s.Ok q) (hw : s.ws = i :: t) (hr : 0 < rate) (hs : stopV q.gs i s = false) : (passOne q.gs minute rate i t s).Ok q ∧ 1 ≤ ppV q.gs i s ∧ ppV q.gs i s ≤ 20 ∧ 0 ≤ frV q.gs i s ∧ frV q.gs i s ≤ 1000000000000 := by
  obtain ⟨h1, h2, h3, h4⟩ := h
  have hir := h1 i (by rw [hw]; simp)
  have hsz := szV_rng hq hir
  have hpp : 1 ≤ ppV q.gs i s ∧ ppV q.gs i s ≤ 20 := by
    unfold ppV
    by_cases e : s.passing = 0
    · rw [decide_eq_true e]; exact hsz
    · rw [decide_eq_false e]; simp only [cond_false]; omega
  have hfr : 0 ≤ frV q.gs i s ∧ frV q.gs i s ≤ 1000000000000 := by
    unfold frV
    by_cases e : s.passing = 0
    · unfold stopV at hs
      rw [decide_eq_true e, Bool.true_and, decide_eq_false_iff_not] at hs
      rw [decide_eq_true e]; simp only [cond_true]; omega
    · rw [decide_eq_false e]; simp only [cond_false]; omega
  refine ⟨?_, hpp.1, hpp.2, hfr.1, hfr.2⟩
  unfold passOne
  by_cases e : ppV q.gs i s - min rate (ppV q.gs i s) = 0
  · rw [decide_eq_true e]
    exact ⟨fun k hk => h1 k (by rw [hw]; simp [show k ∈ t from hk]), by simp [h2], by simp only [cond_true]; omega, hfr⟩
  · rw [decide_eq_false e]
    exact ⟨h1, h2, by simp only [cond_false]; omega, hfr⟩
theorem passV_fuel2 {q : Qu} (hq : q.Ok) {minute : Int} : ∀ (f f' : Nat) (rate : Int) (s : Cr), s.Ok q → rate ≤ f → rate ≤ f' → passV q.gs minute f rate s = passV q.gs minute f' rate s
  | 0, f', rate, s, _, h, _ => by rw [passV_stop (.inl (by omega)), passV_stop (.inl (by omega))]
  | f + 1, 0, rate, s, _, _, h => by rw [passV_stop (.inl (by omega)), passV_stop (.inl (by omega))]
  | f + 1, f' + 1, rate, s, hs, h, h' => by
    cases hw : s.ws with
    | nil => rw [passV_stop (.inr hw), passV_stop (.inr hw)]
    | cons i t =>
      by_cases hr : 0 < rate
      · cases hst : stopV q.gs i s
        · obtain ⟨ho, hp1, hp2, -, -⟩ := passOne_ok (minute := minute) hq hs hw hr hst
          rw [passV_go hw hr hst, passV_go hw hr hst]
          exact passV_fuel2 hq f f' _ _ ho (by omega) (by omega)
        · rw [passV_halt hw hst, passV_halt hw hst]
      · rw [passV_stop (.inl (by omega)), passV_stop (.inl (by omega))]
theorem passV_fuel {q : Qu} (hq : q.Ok) {minute : Int} {s : Cr} (hs : s.Ok q) (f : Nat) (rate : Int) (h1 : rate ≤ f) (h2 : 0 ≤ rate) : passV q.gs minute f rate s = passV q.gs minute rate.toNat rate s :=
  passV_fuel2 hq f rate.toNat rate s hs h1 (by omega)
structure ZP where
  (rate : Int) (s : Cr) (A : Option Addr) (c : Nat)
set_option maxHeartbeats 2000000 in
theorem T_pass (q : Qu) (a : QA) (x : CA) (ord : List Int) (s : Cr) (b : Nat) (minute rate : Int) (hq : q.Ok) (hs : s.Ok q) (hr : 0 ≤ rate ∧ rate ≤ 100) (hl : s.ws.length ≤ 1000) :
    Tr Try.prog 57 [.pointer (some ⟨b, 0, none⟩), .int .i64 minute, .int .i64 rate] (joinL q a x ord s b) (fun _ : CA => True) (fun _ => .tuple #[]) (fun x' => joinL q a x' ord (passV q.gs minute rate.toNat rate s) b) := by
  refine ⟨fun w0 w R hst => ?_⟩
  refine en Try.func57 Try.ntmps57 hst (h := fun F => ?_)
  refine bk (h := ?_)
  refine lp (X := ZP) (I := fun z => 0 ≤ z.rate ∧ z.rate ≤ 100 ∧ z.s.Ok q ∧ z.s.ws.length ≤ 1000 ∧ passV q.gs minute z.rate.toNat z.rate z.s = passV q.gs minute rate.toNat rate s) (le := fun z => [(0, .pointer (some ⟨b, 0, none⟩)), (1, .int .i64 minute), (2, .int .i64 z.rate)]) (Le := fun z => (joinL q a { x with wA := z.A, wc := z.c } ord z.s b ++ R)) (μ := fun z => z.rate.toNat) ⟨rate, s, x.wA, x.wc⟩ ⟨hr.1, hr.2, hs, hl, rfl⟩ (by repeat (first | exact trivial | refine ⟨rfl, ?_⟩)) (SubL.refl _) (fun z hz => ?_)
  obtain ⟨hz1, hz2, hzs, hzl, hze⟩ := hz
  dsimp only [joinL, crE, crC]
  refine sq (h := ?_)
  refine sq (h := ?_)
  refine rg (h := ?_)
  refine WL.y (hy := mv) (h := ?_)
  refine WL.y (hy := gtr) (h := ?_)
  refine WL.y (hy := mv) (h := ?_)
  apply brAnd 7 10 17 (by exact rfl)
  · intro hb0
    refine un (h := ?_)
    refine WL.y (hy := mv) (h := ?_)
    refine un (h := ?_)
    refine WL.y (hy := nck) (h := ?_)
    refine un (h := ?_)
    refine WL.y (hy := (by first | exact fa | exact faE)) (h := ?_)
    refine un (h := ?_)
    refine WL.y (hy := (by first | exact ld | exact ldE)) (h := ?_)
    refine un (h := ?_)
    refine WL.y (hy := lenS) (h := ?_)
    refine un (h := ?_)
    refine WL.y (hy := gtr) (h := ?_)
    refine WL.y (hy := (by first | exact pkT | exact pkF)) (h := ?_)
    exact mg (by repeat (first | exact trivial | refine ⟨rfl, ?_⟩ | refine ⟨by rw [hb0]; rfl, ?_⟩)) (by repeat (first | exact SubL.nil | (apply SubL.cons; (repeat (first | exact At.here | apply At.there))) | exact SubL.refl _ | apply SubL.skip))
  · intro hb0
    repeat (first | refine un (h := ?_) | refine sk (h := ?_) | refine WL.y (hy := pkF) (h := ?_) | refine WL.y (hy := pkT) (h := ?_))
    exact mg (by repeat (first | exact trivial | refine ⟨rfl, ?_⟩ | refine ⟨by rw [hb0]; rfl, ?_⟩)) (by repeat (first | exact SubL.nil | (apply SubL.cons; (repeat (first | exact At.here | apply At.there))) | exact SubL.refl _ | apply SubL.skip))
  refine nl (h := ?_)
  refine q_seq (h := ?_)
  refine cd (by exact rfl) (fun h1 => ?_) (fun h1 => ?_)
  · skip
    obtain ⟨hr0, hw0⟩ : 0 < z.rate ∧ 0 < z.s.ws.length := by simp only [Bool.and_eq_true, decide_eq_true_eq] at h1; omega
    obtain ⟨i, t, hws⟩ : ∃ i t, z.s.ws = i :: t := by
      cases hh : z.s.ws with
      | nil => rw [hh] at hw0; simp at hw0
      | cons i t => exact ⟨i, t, rfl⟩
    have hwl : z.s.ws.length - 1 = t.length := by rw [hws]; rfl
    have hwd : z.s.ws.drop 1 = t := by rw [hws]; rfl
    have hir := hzs.ws i (by rw [hws]; simp)
    obtain ⟨g, hg⟩ : ∃ g, q.gs[i.toNat]? = some g := ⟨_, List.getElem?_eq_getElem (by omega)⟩
    have hge := encPt_at hg
    have hsz : szV q.gs i = g.size := by rw [szV, hg]
    have hszr := szV_rng hq hir
    rw [hsz] at hszr
    have h0e : (enI z.s.ws)[(0 : Int).toNat]? = some [.int .i64 i] := by rw [hws]; rfl
    have hzf := hzs.f
    have hzp := hzs.p
    have hinl := hzs.inn
    obtain ⟨old, hold⟩ : ∃ old, z.s.inn[i.toNat]? = some old := ⟨_, List.getElem?_eq_getElem (by omega)⟩
    have holde := enI_at hold
    refine skp (h := ?_)
    refine q_seq (h := ?_)
    refine bk (h := ?_)
    refine sq (h := ?_)
    refine rg (h := ?_)
    refine WL.y (hy := mv) (h := ?_)
    refine WL.y (hy := nck) (h := ?_)
    refine WL.y (hy := (by first | exact fa | exact faE)) (h := ?_)
    refine WL.y (hy := (by first | exact ld | exact ldE)) (h := ?_)
    refine WL.y (hy := ix (A := z.A) (m := z.s.ws.length) (hr := (by repeat (first | exact Rds.any (rd_wt (T := 3) (A := z.A) (n := z.s.ws.length) (cap := z.c) (ws := z.s.ws)) | apply Rds.there)))) (h := ?_)
    refine WL.y (hy := ldE (A := z.A) (hr := (by repeat (first | exact Rds.any (rd_wt (T := 3) (A := z.A) (n := z.s.ws.length) (cap := z.c) (ws := z.s.ws)) | apply Rds.there))) (hk := h0e)) (h := ?_)
    refine WL.y (hy := asg) (h := ?_)
    refine nl (h := ?_)
    refine q_seq (h := ?_)
    refine ct (X := Unit) (fun _ => stopV q.gs i z.s = false) (fun _ => [(0, .pointer (some ⟨b, 0, none⟩)), (1, .int .i64 minute), (2, .int .i64 z.rate), (6, .int .i64 i)]) (fun _ => (joinL q a { x with wA := z.A, wc := z.c } ord ⟨frV q.gs i z.s, ppV q.gs i z.s, z.s.ws, z.s.inn⟩ b ++ R)) (h1 := ?_) (h2 := ?_)
    · skip
      refine sq (h := ?_)
      refine rg (h := ?_)
      refine WL.y (hy := mv) (h := ?_)
      refine WL.y (hy := nck) (h := ?_)
      refine WL.y (hy := (by first | exact fa | exact faE)) (h := ?_)
      refine WL.y (hy := (by first | exact ld | exact ldE)) (h := ?_)
      refine WL.y (hy := eql) (h := ?_)
      refine nl (h := ?_)
      refine q_seq (h := ?_)
      refine cd (by exact rfl) (fun h2 => ?_) (fun h2 => ?_)
      · skip
        have hpz : decide (z.s.passing = 0) = true := h2
        have hP : ppV q.gs i z.s = g.size := by rw [ppV, hpz, hsz]; rfl
        have hFR : frV q.gs i z.s = z.s.free - g.size := by rw [frV, hpz, hsz]; rfl
        refine sq (h := ?_)
        refine sq (h := ?_)
        refine rgD (by kernel_rfl) [(1000000, .blk b 85 (crC q a { x with wA := z.A, wc := z.c } ord z.s)), (1000000, .ro a.gA 4 q.gs.length (encPt q.gs))] (by repeat (first | exact HS.nil | (apply HS.keep; (repeat (first | exact At.here | apply At.there))) | (apply HS.ro; (repeat (first | exact Rds.ro | exact Rds.own | apply Rds.there))))) (h := ?_)
        refine tk 0 (hy := mv) (h := ?_)
        refine tk 1 (hy := nck) (h := ?_)
        refine tk 2 (hy := (by first | exact fa | exact faE)) (h := ?_)
        refine tk 3 (hy := (by first | exact fa | exact faE)) (h := ?_)
        refine tk 4 (hy := (by first | exact ld | exact ldE)) (h := ?_)
        refine tk 5 (hy := mv) (h := ?_)
        refine tk 6 (hy := ix (A := a.gA) (m := q.gs.length)) (h := ?_)
        refine tk 7 (hy := (by first | exact fa | exact faE)) (h := ?_)
        refine tk 8 (hy := ldE (A := a.gA) (hk := hge)) (h := ?_)
        refine tk 9 (hy := mv) (h := ?_)
        refine tk 10 (hy := nck) (h := ?_)
        refine tk 11 (hy := (by first | exact fa | exact faE)) (h := ?_)
        refine tk 12 (hy := (by first | exact ld | exact ldE)) (h := ?_)
        refine tk 13 (hy := gtr) (h := ?_)
        refine dn (h := ?_)
        refine q_seq (h := ?_)
        refine cd (by exact rfl) (fun h3 => ?_) (fun h3 => ?_)
        · skip
          have hE : passV q.gs minute rate.toNat rate s = z.s := by
            rw [← hze]
            refine passV_halt hws ?_ z.rate.toNat
            rw [stopV, hpz, hsz]; exact h3
          refine rtn (h := ?_)
          refine q_then_ret (h := ?_)
          refine q_then_ret (h := ?_)
          refine q_blk_ret (h := ?_)
          refine q_then_ret (h := ?_)
          refine q_blk_ret (h := ?_)
          refine q_ret (hR := ?_)
          rw [hE]
          exact fun w hS => ⟨{ x with wA := z.A, wc := z.c }, trivial, rfl, hS.sub (by repeat (first | exact SubL.nil | (apply SubL.cons; (repeat (first | exact At.here | apply At.there))) | exact SubL.refl _ | apply SubL.skip))⟩
        · skip
          have hgo : stopV q.gs i z.s = false := by rw [stopV, hpz, hsz]; exact h3
          refine skp (h := ?_)
          refine q_seq (h := ?_)
          refine sq (h := ?_)
          refine rg (h := ?_)
          refine WL.y (hy := mv) (h := ?_)
          refine WL.y (hy := mv) (h := ?_)
          refine WL.y (hy := nck) (h := ?_)
          refine WL.y (hy := (by first | exact fa | exact faE)) (h := ?_)
          refine WL.y (hy := (by first | exact fa | exact faE)) (h := ?_)
          refine WL.y (hy := (by first | exact ld | exact ldE)) (h := ?_)
          refine WL.y (hy := mv) (h := ?_)
          refine WL.y (hy := ix (A := a.gA) (m := q.gs.length)) (h := ?_)
          refine WL.y (hy := (by first | exact fa | exact faE)) (h := ?_)
          refine WL.y (hy := ldE (A := a.gA) (hk := hge)) (h := ?_)
          refine WL.y (hy := nck) (h := ?_)
          refine WL.y (hy := (by first | exact fa | exact faE)) (h := ?_)
          first | refine st (h := ?_) | refine stE (h := ?_)
          refine nl (h := ?_)
          refine q_seq (h := ?_)
          refine rgD (by kernel_rfl) [(11, .blk b 85 (crC q a { x with wA := z.A, wc := z.c } ord ⟨z.s.free, g.size, z.s.ws, z.s.inn⟩))] (by repeat (first | exact HS.nil | (apply HS.keep; (repeat (first | exact At.here | apply At.there))) | (apply HS.ro; (repeat (first | exact Rds.ro | exact Rds.own | apply Rds.there))))) (h := ?_)
          refine tk 0 (hy := mv) (h := ?_)
          refine tk 1 (hy := nck) (h := ?_)
          refine tk 2 (hy := (by first | exact fa | exact faE)) (h := ?_)
          refine tk 3 (hy := (by first | exact ld | exact ldE)) (h := ?_)
          refine tk 4 (hy := mv) (h := ?_)
          refine tk 5 (hy := nck) (h := ?_)
          refine tk 6 (hy := (by first | exact fa | exact faE)) (h := ?_)
          refine tk 7 (hy := (by first | exact ld | exact ldE)) (h := ?_)
          refine tk 8 (hy := subI (a := z.s.free) (b := g.size) (hb := by have := of_decide_eq_false ‹decide (z.s.free < g.size) = false›; omega)) (h := ?_)
          refine tk 9 (hy := nck) (h := ?_)
          refine tk 10 (hy := (by first | exact fa | exact faE)) (h := ?_)
          refine one 11 (h := ?_)
          first | refine st (h := ?_) | refine stE (h := ?_)
          refine nx (h := ?_)
          refine dn (h := ?_)
          exact ctn () hgo (by repeat (first | exact trivial | refine ⟨rfl, ?_⟩)) (by dsimp only [joinL, crE, crC]; rw [hP, hFR]; repeat (first | exact SubL.nil | (apply SubL.cons; (repeat (first | exact At.here | apply At.there))) | exact SubL.refl _ | apply SubL.skip))
      · skip
        have hpz : decide (z.s.passing = 0) = false := h2
        have hP : ppV q.gs i z.s = z.s.passing := by rw [ppV, hpz]; rfl
        have hFR : frV q.gs i z.s = z.s.free := by rw [frV, hpz]; rfl
        have hgo : stopV q.gs i z.s = false := by rw [stopV, hpz]; rfl
        refine skp (h := ?_)
        exact ctn () hgo (by repeat (first | exact trivial | refine ⟨rfl, ?_⟩)) (by dsimp only [joinL, crE, crC]; rw [hP, hFR]; repeat (first | exact SubL.nil | (apply SubL.cons; (repeat (first | exact At.here | apply At.there))) | exact SubL.refl _ | apply SubL.skip))
    rintro ⟨⟩ hgo
    obtain ⟨hok1, hpp1, hpp2, hfr1, hfr2⟩ := passOne_ok (minute := minute) hq hzs hws hr0 hgo
    have hnx : passV q.gs minute rate.toNat rate s = passV q.gs minute (z.rate - min z.rate (ppV q.gs i z.s)).toNat (z.rate - min z.rate (ppV q.gs i z.s)) (passOne q.gs minute z.rate i t z.s) := by
      rw [← hze]
      obtain ⟨f, hf⟩ : ∃ f, z.rate.toNat = f + 1 := ⟨z.rate.toNat - 1, by omega⟩
      rw [hf, passV_go hws hr0 hgo]
      exact passV_fuel hq hok1 f _ (by omega) (by omega)
    dsimp only [joinL, crE, crC]
    refine sq (h := ?_)
    refine rg (h := ?_)
    refine WL.y (hy := mv) (h := ?_)
    refine WL.y (hy := mv) (h := ?_)
    refine WL.y (hy := nck) (h := ?_)
    refine WL.y (hy := (by first | exact fa | exact faE)) (h := ?_)
    refine WL.y (hy := (by first | exact ld | exact ldE)) (h := ?_)
    refine WL.y (hy := minI) (h := ?_)
    refine WL.y (hy := asg) (h := ?_)
    refine nl (h := ?_)
    refine q_seq (h := ?_)
    refine sq (h := ?_)
    refine rg (h := ?_)
    refine WL.y (hy := mv) (h := ?_)
    refine WL.y (hy := mv) (h := ?_)
    refine WL.y (hy := subI) (h := ?_)
    refine WL.y (hy := asg) (h := ?_)
    refine nl (h := ?_)
    refine q_seq (h := ?_)
    refine sq (h := ?_)
    refine rg (h := ?_)
    refine WL.y (hy := mv) (h := ?_)
    refine WL.y (hy := nck) (h := ?_)
    refine WL.y (hy := (by first | exact fa | exact faE)) (h := ?_)
    refine WL.y (hy := (by first | exact ld | exact ldE)) (h := ?_)
    refine WL.y (hy := mv) (h := ?_)
    refine WL.y (hy := subI) (h := ?_)
    refine WL.y (hy := nck) (h := ?_)
    refine WL.y (hy := (by first | exact fa | exact faE)) (h := ?_)
    first | refine st (h := ?_) | refine stE (h := ?_)
    refine nl (h := ?_)
    refine q_seq (h := ?_)
    refine sq (h := ?_)
    refine rg (h := ?_)
    refine WL.y (hy := mv) (h := ?_)
    refine WL.y (hy := nck) (h := ?_)
    refine WL.y (hy := (by first | exact fa | exact faE)) (h := ?_)
    refine WL.y (hy := (by first | exact ld | exact ldE)) (h := ?_)
    refine WL.y (hy := eql) (h := ?_)
    refine nl (h := ?_)
    refine q_seq (h := ?_)
    refine cd (by exact rfl) (fun h4 => ?_) (fun h4 => ?_)
    · skip
      have hone : passOne q.gs minute z.rate i t z.s = ⟨frV q.gs i z.s, ppV q.gs i z.s - min z.rate (ppV q.gs i z.s), t, z.s.inn.set i.toNat minute⟩ := by rw [passOne, h4]; rfl
      refine sq (h := ?_)
      refine rg (h := ?_)
      refine WL.y (hy := mv) (h := ?_)
      refine WL.y (hy := nck) (h := ?_)
      refine WL.y (hy := (by first | exact fa | exact faE)) (h := ?_)
      refine WL.y (hy := (by first | exact ld | exact ldE)) (h := ?_)
      refine WL.y (hy := mv) (h := ?_)
      refine WL.y (hy := mv) (h := ?_)
      refine WL.y (hy := ix (A := x.iA) (m := z.s.inn.length)) (h := ?_)
      refine stE (A := x.iA) (hk := holde) (h := ?_)
      refine nl (h := ?_)
      refine q_seq (h := ?_)
      refine rg (h := ?_)
      refine WL.y (hy := mv) (h := ?_)
      refine WL.y (hy := mv) (h := ?_)
      refine WL.y (hy := nck) (h := ?_)
      refine WL.y (hy := (by first | exact fa | exact faE)) (h := ?_)
      refine WL.y (hy := (by first | exact ld | exact ldE)) (h := ?_)
      refine WL.y (hy := slA (A := z.A) (m := z.s.ws.length) (cap := z.c) (lo' := 1) (hlo := by omega)) (h := ?_)
      refine WL.y (hy := nck) (h := ?_)
      refine WL.y (hy := (by first | exact fa | exact faE)) (h := ?_)
      first | refine st (h := ?_) | refine stE (h := ?_)
      refine WL.wtDrop (A := z.A) (cap := z.c) (ws := z.s.ws) (by repeat (first | exact At.here | apply At.there)) 1 (by omega) ?_
      rw [hwl, hwd]
      refine nl (h := ?_)
      refine q_blk_norm (h := ?_)
      first
        | (refine rn (x := z) ⟨z.rate - min z.rate (ppV q.gs i z.s), passOne q.gs minute z.rate i t z.s, (if z.c = 1 then z.A else z.A.map (·.add (1 * 1))), z.c - 1⟩ ⟨by dsimp only; omega, by dsimp only; omega, hok1, by rw [hone]; dsimp only; omega, hnx.symm⟩ (by dsimp only; omega) (by repeat (first | exact trivial | refine ⟨rfl, ?_⟩)) (by rw [hone]; dsimp only [joinL, crE, crC]; rw [List.length_set, ← enI_set]; repeat (first | exact SubL.nil | (apply SubL.cons; (repeat (first | exact At.here | apply At.there))) | exact SubL.refl _ | apply SubL.skip)))
        | (refine rn (x := z) ⟨z.rate - min z.rate (ppV q.gs i z.s), passOne q.gs minute z.rate i t z.s, z.A, z.c⟩ ⟨by dsimp only; omega, by dsimp only; omega, hok1, by rw [hone]; exact hzl, hnx.symm⟩ (by dsimp only; omega) (by repeat (first | exact trivial | refine ⟨rfl, ?_⟩)) (by rw [hone]; dsimp only [joinL, crE, crC]; repeat (first | exact SubL.nil | (apply SubL.cons; (repeat (first | exact At.here | apply At.there))) | exact SubL.refl _ | apply SubL.skip)))
    · skip
      have hone : passOne q.gs minute z.rate i t z.s = { z.s with free := frV q.gs i z.s, passing := ppV q.gs i z.s - min z.rate (ppV q.gs i z.s) } := by rw [passOne, h4]; rfl
      refine skp (h := ?_)
      refine q_blk_norm (h := ?_)
      first
        | (refine rn (x := z) ⟨z.rate - min z.rate (ppV q.gs i z.s), passOne q.gs minute z.rate i t z.s, (if z.c = 1 then z.A else z.A.map (·.add (1 * 1))), z.c - 1⟩ ⟨by dsimp only; omega, by dsimp only; omega, hok1, by rw [hone]; dsimp only; omega, hnx.symm⟩ (by dsimp only; omega) (by repeat (first | exact trivial | refine ⟨rfl, ?_⟩)) (by rw [hone]; dsimp only [joinL, crE, crC]; rw [List.length_set, ← enI_set]; repeat (first | exact SubL.nil | (apply SubL.cons; (repeat (first | exact At.here | apply At.there))) | exact SubL.refl _ | apply SubL.skip)))
        | (refine rn (x := z) ⟨z.rate - min z.rate (ppV q.gs i z.s), passOne q.gs minute z.rate i t z.s, z.A, z.c⟩ ⟨by dsimp only; omega, by dsimp only; omega, hok1, by rw [hone]; exact hzl, hnx.symm⟩ (by dsimp only; omega) (by repeat (first | exact trivial | refine ⟨rfl, ?_⟩)) (by rw [hone]; dsimp only [joinL, crE, crC]; repeat (first | exact SubL.nil | (apply SubL.cons; (repeat (first | exact At.here | apply At.there))) | exact SubL.refl _ | apply SubL.skip)))
  · skip
    have hE : passV q.gs minute rate.toNat rate s = z.s := by
      rw [← hze]
      refine passV_stop ?_ z.rate.toNat
      rcases Bool.and_eq_false_iff.1 h1 with h1 | h1
      · left; have := of_decide_eq_false h1; omega
      · right; have := of_decide_eq_false h1; exact List.eq_nil_of_length_eq_zero (by omega)
    refine et (h := ?_)
    refine q_then_exit (h := ?_)
    refine q_then_exit (h := ?_)
    refine q_blk_hit (h := ?_)
    refine q_end (hR := ?_)
    rw [hE]
    exact fun w hS => ⟨{ x with wA := z.A, wc := z.c }, trivial, rfl, hS.sub (by repeat (first | exact SubL.nil | (apply SubL.cons; (repeat (first | exact At.here | apply At.there))) | exact SubL.refl _ | apply SubL.skip))⟩
end Go.Proofs.Ytbcclgfobiholaa
