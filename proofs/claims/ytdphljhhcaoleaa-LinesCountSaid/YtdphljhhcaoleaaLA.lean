/- Walk of lines.Slack, and plain laws on views of which less is known. -/
import Derived.Test.YtdphljhhcaoleaaL9
import Derived.Test.YtdphljhhcaoleaaK3
namespace Go.Proofs.Ytdphljhhcaoleaa
open Go Go.RowKit

/-- What Slack answers. -/
def SlackR (v : View) (b : Box) (s e : Int) : Prop :=
  (¬ callE v b = 0 ∧ s = 0 ∧ e = callE v b) ∨ (callE v b = 0 ∧ callN v b = 3 ∧ s = -1 ∧ e = 0) ∨
  (callE v b = 0 ∧ ¬ callN v b = 3 ∧ e = 0 ∧ ∃ k : Nat, s = k ∧ k ≤ 20 ∧ (∀ j : Nat, j < k → callV (wid v (j + 1)) b = callN v b) ∧ (k = 20 ∨ ¬ callV (wid v (k + 1)) b = callN v b))
theorem callE_val {v : View} {b : Box} (h : callE v b = 0) : vbad v = false ∧ bbad b = false := by
  unfold callE at h
  cases hc : !decide (chkVB v b = 0)
  · exact chkVB_ok hc
  · rw [hc] at h
    simp only [cond_true] at h
    rw [h] at hc; cases hc

theorem C_lines_Slack (v : View) (b : Box) (A : Option Addr) (n c : Nat) (w : World) (h : Rd w A 4 n v.enc) (hn : n ≤ 9223372036854775807) :
    CR Try.prog 37 [v.val A n c, b.val] w (fun x : Int × Int => SlackR v b x.1 x.2) (fun x => .tuple #[.int .i64 x.1, .int .i64 x.2]) (fun _ => []) := by
  have hlen : v.strips.length = n := by have := h.len; simpa using this
  refine ⟨en Try.func37 Try.ntmps37 ((St.init w).share (e := .ro A 4 n v.enc) h rfl rfl rfl) (h := fun F => ?_)⟩
  refine sq (h := ?_)
  refine rg (h := ?_)
  refine bxA (h := fun b0 => ?_)
  refine bxA (h := fun b1 => ?_)
  refine WL.y (hy := asg) (h := ?_)
  refine WL.y (hy := asg) (h := ?_)
  refine nl (h := ?_)
  refine q_seq (h := ?_)
  refine sq (h := ?_)
  refine rg (h := ?_)
  refine WL.y (hy := (by first | exact ldA | exact ldEA)) (h := ?_)
  refine WL.y (hy := (by first | exact ldA | exact ldEA)) (h := ?_)
  refine cl0 (hc := fun w hS => C_lines_Call _ _ _ _ _ w (hS.get (by repeat (first | exact Rds.ro | exact Rds.own | apply Rds.there))) (by omega)) (h := ?_); rw [callR_eq]
  refine WL.y (hy := mv) (h := ?_)
  refine WL.y (hy := ex) (h := ?_)
  refine WL.y (hy := ex) (h := ?_)
  refine WL.y (hy := asg) (h := ?_)
  refine WL.y (hy := asg) (h := ?_)
  refine nl (h := ?_)
  refine q_seq (h := ?_)
  refine sq (h := ?_)
  refine sq (h := ?_)
  refine rg (h := ?_)
  refine WL.y (hy := mv) (h := ?_)
  refine WL.y (hy := neq) (h := ?_)
  refine nl (h := ?_)
  refine q_seq (h := ?_)
  refine cd (by exact rfl) (fun h0 => ?_) (fun h0 => ?_)
  · skip
    have he0 : ¬ callE v b = 0 := by simpa using h0
    refine sq (h := ?_)
    refine rg (h := ?_)
    refine WL.y (hy := mv) (h := ?_)
    refine WL.y (hy := asg) (h := ?_)
    refine WL.y (hy := asg) (h := ?_)
    refine nl (h := ?_)
    refine q_seq (h := ?_)
    refine rtn (h := ?_)
    refine q_then_ret (h := ?_)
    refine q_ret (hR := ?_)
    exact fun w hS => ⟨(0, callE v b), .inl ⟨he0, rfl, rfl⟩, rfl, hS.sub (by repeat (first | exact SubL.nil | (apply SubL.cons; (repeat (first | exact At.here | apply At.there)))))⟩
  · skip
    have he0 : callE v b = 0 := by simpa using h0
    obtain ⟨hvb, hbb⟩ := callE_val he0
    have hvn := vbad_near hvb
    have hbok := bbad_ok hbb
    have hn8 := hvn.len
    have hrg : Rng v 1000 := fun s hs => by have := vbad_rng hvb s hs; omega
    refine skp (h := ?_)
    refine q_seq (h := ?_)
    refine sq (h := ?_)
    refine sq (h := ?_)
    refine rg (h := ?_)
    refine WL.y (hy := mv) (h := ?_)
    refine WL.y (hy := eql) (h := ?_)
    refine nl (h := ?_)
    refine q_seq (h := ?_)
    refine cd (by exact rfl) (fun h1 => ?_) (fun h1 => ?_)
    · skip
      have hc3 : callN v b = 3 := by simpa using h1
      refine sq (h := ?_)
      refine rg (h := ?_)
      refine WL.y (hy := asg) (h := ?_)
      refine WL.y (hy := asg) (h := ?_)
      refine nl (h := ?_)
      refine q_seq (h := ?_)
      refine rtn (h := ?_)
      refine q_then_ret (h := ?_)
      refine q_ret (hR := ?_)
      exact fun w hS => ⟨(-1, 0), .inr (.inl ⟨he0, hc3, rfl, rfl⟩), rfl, hS.sub (by repeat (first | exact SubL.nil | (apply SubL.cons; (repeat (first | exact At.here | apply At.there)))))⟩
    · skip
      have hc3 : ¬ callN v b = 3 := by simpa using h1
      refine skp (h := ?_)
      refine q_seq (h := ?_)
      refine sq (h := ?_)
      refine rg (h := ?_)
      refine WL.y (hy := asg) (h := ?_)
      refine nl (h := ?_)
      refine q_seq (h := ?_)
      refine sq (h := ?_)
      refine bk (h := ?_)
      refine lp (X := Nat) (I := fun k => k ≤ 20 ∧ ∀ j : Nat, j < k → callV (wid v (j + 1)) b = callN v b) (le := fun k => [(2, .pointer (some ⟨b0, 0, none⟩)), (3, .pointer (some ⟨b1, 0, none⟩)), (6, .int .i64 (callN v b)), (8, .int .i64 k)]) (Le := fun _ => [.blk b0 26 (v.cells A n c), .blk b1 28 [.int .i64 b.l, .int .i64 b.r, .int .i64 b.b, .int .i64 b.t], .ro A 4 n v.enc]) (μ := fun k => 20 - k) 0 ⟨by omega, fun j hj => by omega⟩ (by repeat (first | exact trivial | refine ⟨rfl, ?_⟩)) (by repeat (first | exact SubL.nil | (apply SubL.cons; (repeat (first | exact At.here | apply At.there))))) (fun k hk => ?_)
      obtain ⟨hk, hall⟩ := hk
      refine sq (h := ?_)
      refine sq (h := ?_)
      refine rgD0 (by kernel_rfl) (h := ?_)
      refine tk 0 (hy := mv) (h := ?_)
      refine tk 1 (hy := lss) (h := ?_)
      refine tk 2 (hy := mv) (h := ?_)
      refine brH (g := 22) (by exact rfl) (fun hb2 => ?_) (fun hb2 => ?_)
      · skip
        have hk20 : k < 20 := by simp only [decide_eq_true_eq] at hb2; omega
        refine tk 3 (hy := (by first | exact ldA | exact ldEA)) (h := ?_)
        refine tk 4 (hy := mv) (h := ?_)
        refine tk 5 (hy := addI) (h := ?_)
        refine tk 7 (hy := (by first | exact ldA | exact ldEA)) (h := ?_)
        refine tk 9 (hy := mv) (h := ?_)
        refine one 6 (h := ?_)
        refine un (h := ?_)
        refine cl (hc := fun w hS => C_lines_wider _ _ _ _ _ w (hS.get (by repeat (first | exact Rds.ro | exact Rds.own | apply Rds.there))) (by omega) ‹_› (by omega)) (h := fun x1 _ => ?_)
        refine nx (h := ?_)
        refine one 8 (h := ?_)
        refine un (h := ?_)
        refine cl0 (hc := fun w hS => C_lines_call (wid v (k + 1)) b _ _ _ w (hS.get (by repeat (first | exact Rds.ro | exact Rds.own | apply Rds.there))) (wid_near hvn) hbok) (h := ?_)
        refine nx (h := ?_)
        refine tk 10 (hy := eql) (h := ?_)
        refine tk 11 (hy := (by first | exact pkT | exact pkF)) (h := ?_)
        refine dn (h := ?_)
        refine q_seq (h := ?_)
        refine cd (by exact rfl) (fun h3 => ?_) (fun h3 => ?_)
        · skip
          have hst : k < 20 ∧ callV (wid v (k + 1)) b = callN v b := by
            first
              | exact ⟨hk20, by simpa using h3⟩
              | cases h3
          refine skp (h := ?_)
          refine q_seq (h := ?_)
          refine bk (h := ?_)
          refine rg (h := ?_)
          refine WL.y (hy := mv) (h := ?_)
          refine WL.y (hy := addI) (h := ?_)
          refine WL.y (hy := asg) (h := ?_)
          refine nl (h := ?_)
          refine q_blk_norm (h := ?_)
          refine rn (k + 1) ⟨by omega, fun j hj => ?_⟩ (by omega) (by repeat (first | exact trivial | refine ⟨rfl, ?_⟩)) (by repeat (first | exact SubL.nil | (apply SubL.cons; (repeat (first | exact At.here | apply At.there)))))
          rcases Nat.lt_succ_iff_lt_or_eq.1 hj with h | rfl
          · exact hall j h
          · exact hst.2
        · skip
          have hend : k = 20 ∨ ¬ callV (wid v (k + 1)) b = callN v b := by
            first
              | exact .inl (by simp only [decide_eq_false_iff_not] at hb2; omega)
              | exact .inr (by simpa using h3)
          refine et (h := ?_)
          refine q_then_exit (h := ?_)
          refine q_then_exit (h := ?_)
          refine q_blk_hit (h := ?_)
          refine q_seq (h := ?_)
          refine sq (h := ?_)
          refine rg (h := ?_)
          refine WL.y (hy := mv) (h := ?_)
          refine WL.y (hy := asg) (h := ?_)
          refine WL.y (hy := asg) (h := ?_)
          refine nl (h := ?_)
          refine q_seq (h := ?_)
          refine rtn (h := ?_)
          refine q_ret (hR := ?_)
          exact fun w hS => ⟨((k : Int), 0), .inr (.inr ⟨he0, hc3, rfl, k, rfl, hk, hall, hend⟩), rfl, hS.sub (by repeat (first | exact SubL.nil | (apply SubL.cons; (repeat (first | exact At.here | apply At.there)))))⟩
      · skip
        refine tkS 3 (h := ?_)
        refine tkS 4 (h := ?_)
        refine tkS 5 (h := ?_)
        refine tkS 7 (h := ?_)
        refine tkS 9 (h := ?_)
        refine tkS 6 (h := ?_)
        refine tkS 8 (h := ?_)
        refine tkS 10 (h := ?_)
        refine tk 11 (hy := (by first | exact pkT | exact pkF)) (h := ?_)
        refine dn (h := ?_)
        refine q_seq (h := ?_)
        refine cd (by exact rfl) (fun h4 => ?_) (fun h4 => ?_)
        · skip
          have hst : k < 20 ∧ callV (wid v (k + 1)) b = callN v b := by
            first
              | exact ⟨hk20, by simpa using h4⟩
              | cases h4
          refine skp (h := ?_)
          refine q_seq (h := ?_)
          refine bk (h := ?_)
          refine rg (h := ?_)
          refine WL.y (hy := mv) (h := ?_)
          refine WL.y (hy := addI) (h := ?_)
          refine WL.y (hy := asg) (h := ?_)
          refine nl (h := ?_)
          refine q_blk_norm (h := ?_)
          refine rn (k + 1) ⟨by omega, fun j hj => ?_⟩ (by omega) (by repeat (first | exact trivial | refine ⟨rfl, ?_⟩)) (by repeat (first | exact SubL.nil | (apply SubL.cons; (repeat (first | exact At.here | apply At.there)))))
          rcases Nat.lt_succ_iff_lt_or_eq.1 hj with h | rfl
          · exact hall j h
          · exact hst.2
        · skip
          have hend : k = 20 ∨ ¬ callV (wid v (k + 1)) b = callN v b := by
            first
              | exact .inl (by simp only [decide_eq_false_iff_not] at hb2; omega)
              | exact .inr (by simpa using h4)
          refine et (h := ?_)
          refine q_then_exit (h := ?_)
          refine q_then_exit (h := ?_)
          refine q_blk_hit (h := ?_)
          refine q_seq (h := ?_)
          refine sq (h := ?_)
          refine rg (h := ?_)
          refine WL.y (hy := mv) (h := ?_)
          refine WL.y (hy := asg) (h := ?_)
          refine WL.y (hy := asg) (h := ?_)
          refine nl (h := ?_)
          refine q_seq (h := ?_)
          refine rtn (h := ?_)
          refine q_ret (hR := ?_)
          exact fun w hS => ⟨((k : Int), 0), .inr (.inr ⟨he0, hc3, rfl, k, rfl, hk, hall, hend⟩), rfl, hS.sub (by repeat (first | exact SubL.nil | (apply SubL.cons; (repeat (first | exact At.here | apply At.there)))))⟩

/-! #### of which less is known -/
theorem wrong_count (ss : List Strip) (x y : Int) : ∀ k, k ≤ ss.length → (wrongTo ss x y k).length = (ss.take k).countP (fun s => miss s x y)
  | 0, _ => rfl
  | k + 1, h => by
    have ih := wrong_count ss x y k (by omega)
    have hs : ss[k]? = some (ss[k]'(by omega)) := List.getElem?_eq_getElem (by omega)
    rw [wrongTo_succ hs, List.take_add_one, hs, List.countP_append, ← ih]
    cases hm : miss (ss[k]'(by omega)) x y <;> simp [hm]
theorem wrongs_count (v : View) (x y : Int) : (wrongs v x y).length = v.strips.countP (fun s => miss s x y) := by
  have := wrong_count v.strips x y v.strips.length (Nat.le_refl _)
  rwa [List.take_length] at this
/-- Each centre of v is one of o, and o's spans of half axes hold v's. -/
structure Less (v o : View) : Prop where
  size : o.size = v.size
  tr : ∀ p, tru v p = true → tru o p = true
  xl : o.hxl ≤ v.hxl
  xh : v.hxh ≤ o.hxh
  yl : o.hyl ≤ v.hyl
  yh : v.hyh ≤ o.hyh
theorem Less.to_ {v o : View} (h : Less v o) : ∀ k, (truTo v k).length ≤ (truTo o k).length
  | 0 => Nat.le_refl _
  | k + 1 => by
    have ih := h.to_ k
    have hc : ctr o k = ctr v k := by simp only [ctr, View.m, h.size]
    rw [truTo, truTo, hc]
    cases h1 : tru v (ctr v k)
    · cases tru o (ctr v k) <;> simp <;> omega
    · rw [h.tr _ h1]; simp; omega
theorem Less.len {v o : View} (h : Less v o) : (trus v).length ≤ (trus o).length := by
  have e : o.m = v.m := by simp only [View.m, h.size]
  unfold trus; rw [e]; exact h.to_ _
theorem Less.mem {v o : View} (h : Less v o) {p : Int × Int} (hp : p ∈ trus v) : p ∈ trus o := by
  obtain ⟨j, hj, rfl, ht⟩ := truTo_mem hp
  have hc : ctr o j = ctr v j := by simp only [ctr, View.m, h.size]
  have e : o.m = v.m := by simp only [View.m, h.size]
  unfold trus; rw [e]
  exact truTo_sub hc.symm (h.tr _ ht) hj
theorem Less.none {v o : View} (h : Less v o) (hn : none0 v = false) : none0 o = false := by
  obtain ⟨p, hp⟩ := trus_some hn
  cases ho : none0 o
  · rfl
  · exact absurd (h.mem hp) (none_mem ho)
theorem Less.call {v o : View} {b : Box} (hv : v.Near) (ho : o.Near) (h : Less v o) (hn : none0 v = false) : callV o b = callV v b ∨ callV o b = 3 := by
  have hno := h.none hn
  have hxv := hv.hx; have hyv := hv.hy; have hxo := ho.hx0; have hyo := ho.hy0
  have hxv0 := hv.hx0; have hyv0 := hv.hy0
  have hxl := h.xl; have hxh := h.xh; have hyl := h.yl; have hyh := h.yh
  rcases call_cases (v := o) (b := b) with ⟨e, _⟩ | ⟨_, e, h1⟩ | ⟨_, e, _, h1⟩ | ⟨_, e, _⟩
  · rw [hno] at e; cases e
  · left
    have hall : ∀ p ∈ trus v, tch (smallM v p) b = true := fun p hp => tch_grow (m := smallM o p) rfl rfl hxo hxl hyo hyl (h1 p (h.mem hp))
    rw [e]
    rcases call_cases (v := v) (b := b) with ⟨e2, _⟩ | ⟨_, e2, _⟩ | ⟨_, _, ⟨p, hp, h3⟩, _⟩ | ⟨_, _, ⟨p, hp, h3⟩, _⟩
    · rw [hn] at e2; cases e2
    · exact e2.symm
    · rw [hall p hp] at h3; cases h3
    · rw [hall p hp] at h3; cases h3
  · left
    have hno : ∀ p ∈ trus v, tch (largeM v p) b = false := fun p hp => by
      cases ht : tch (largeM v p) b
      · rfl
      · have := tch_grow (m := largeM v p) (m' := largeM o p) rfl rfl (by simp only [largeM]; omega) hxh (by simp only [largeM]; omega) hyh ht
        rw [h1 p (h.mem hp)] at this; cases this
    rw [e]
    rcases call_cases (v := v) (b := b) with ⟨e2, _⟩ | ⟨_, _, h3⟩ | ⟨_, e2, _⟩ | ⟨_, _, _, p, hp, h3⟩
    · rw [hn] at e2; cases e2
    · obtain ⟨p, hp⟩ := trus_some hn
      have := small_large hv hp (h3 p hp)
      rw [hno p hp] at this; cases this
    · exact e2.symm
    · rw [hno p hp] at h3; cases h3
  · exact .inr e
theorem miss_wid {s : Strip} {d x y : Int} (hd : 0 ≤ d) (h : miss (wid1 d s) x y = true) : miss s x y = true := by
  have e1 : ∀ t : Strip, miss t x y = true ↔ ¬ (t.lo ≤ t.p * x + t.q * y ∧ t.p * x + t.q * y ≤ t.hi) := fun t => by
    rw [← wi_iff]; simp [miss]
  rw [e1] at h ⊢
  have h' : ¬ (s.lo - d ≤ s.p * x + s.q * y ∧ s.p * x + s.q * y ≤ s.hi + d) := h
  omega
theorem wid_count {ss : List Strip} {d x y : Int} (hd : 0 ≤ d) : (ss.map (wid1 d)).countP (fun s => miss s x y) ≤ ss.countP (fun s => miss s x y) := by
  rw [List.countP_map]
  exact List.countP_mono_left fun s _ h => miss_wid hd h
theorem wid_less (v : View) {d : Int} (hd : 0 ≤ d) : Less v (wid v d) := by
  refine ⟨rfl, fun p hp => ?_, Int.le_refl _, Int.le_refl _, Int.le_refl _, Int.le_refl _⟩
  simp only [tru, decide_eq_true_eq, wrongs_count] at *
  have h1 := wid_count (ss := v.strips) (x := p.1) (y := p.2) hd
  have e1 : (wid v d).strips = v.strips.map (wid1 d) := rfl
  have e2 : (wid v d).wr = v.wr := rfl
  rw [e1, e2]
  omega
theorem iStrip_wid {s : Strip} {d : Int} (h : iStrip s = true) (hd : 0 ≤ d) (h1 : -500 ≤ s.lo - d) (h2 : s.hi + d ≤ 500) : iStrip (wid1 d s) = true := by
  simp only [iStrip, wid1, Bool.and_eq_true, isp_iff] at *
  exact ⟨h.1, by omega, by omega, by omega⟩
theorem wid_ok {v : View} {d : Int} (h : vbad v = false) (hr : Rng v 400) (hd : 0 ≤ d ∧ d ≤ 100) : vbad (wid v d) = false := by
  have h0 := h
  simp only [vbad, Bool.or_eq_false_iff, List.any_eq_false] at h ⊢
  obtain ⟨⟨⟨⟨⟨h1, h2⟩, h3⟩, h4⟩, h5⟩, h6⟩ := h
  refine ⟨⟨⟨⟨⟨fun s hs => ?_, by simpa [wid] using h2⟩, h3⟩, h4⟩, h5⟩, h6⟩
  obtain ⟨t, ht, rfl⟩ := List.mem_map.1 hs
  have hi : iStrip t = true := by simpa using h1 t ht
  have hrt := hr t ht
  rw [iStrip_wid hi hd.1 (by omega) (by omega)]; decide
theorem wid_zero (v : View) : wid v 0 = v := by
  have : v.strips.map (wid1 0) = v.strips := by
    have e : wid1 0 = id := by funext s; simp [wid1]
    rw [e, List.map_id]
  simp only [wid, this]
theorem slack_law {v : View} {b : Box} {s e : Int} (h : SlackR v b s e) (he : callE v b = 0) (h3 : ¬ callN v b = 3) (hr : Rng v 400) :
    0 ≤ s ∧ s ≤ 20 ∧ callE (wid v s) b = 0 ∧ callE (wid v (s + 1)) b = 0 ∧ callN (wid v s) b = callN v b ∧ (s = 20 ∨ ¬ callN (wid v (s + 1)) b = callN v b) := by
  obtain ⟨hvb, hbb⟩ := callE_val he
  obtain ⟨_, hcn⟩ := callE_ok hvb hbb
  rcases h with ⟨h, _⟩ | ⟨_, h, _⟩ | ⟨_, _, _, k, rfl, hk, hall, hend⟩
  · exact absurd he h
  · exact absurd h h3
  · have hno : none0 v = false := by
      rcases none_of hvb hbb with ⟨e1, _⟩ | ⟨_, h, _⟩
      · rw [he] at e1; cases e1
      · exact h
    have hgo : ∀ d : Int, 0 ≤ d → d ≤ 100 → callE (wid v d) b = 0 ∧ callN (wid v d) b = callV (wid v d) b := fun d h0 h1 => by
      have hw := wid_ok hvb hr ⟨h0, h1⟩
      have hn2 := (wid_less v h0).none hno
      refine ⟨?_, (callE_ok hw hbb).2⟩
      rcases none_of hw hbb with ⟨_, h⟩ | ⟨h, _⟩
      · rw [hn2] at h; cases h
      · exact h
    obtain ⟨g1, g2⟩ := hgo k (by omega) (by omega)
    obtain ⟨g3, g4⟩ := hgo (k + 1) (by omega) (by omega)
    refine ⟨by omega, by omega, g1, g3, ?_, ?_⟩
    · cases k with
      | zero => rw [show ((0 : Nat) : Int) = 0 from rfl, wid_zero]
      | succ j =>
        rw [g2]
        exact hall j (by omega)
    · rw [g4]
      rcases hend with h | h
      · exact .inl (by omega)
      · exact .inr h
end Go.Proofs.Ytdphljhhcaoleaa
