/- Plain laws for the theorem of the mirror. -/
import Derived.Test.YtdphljhhcaoleaaLA
import Derived.Test.YtdphljhhcaoleaaLQ
namespace Go.Proofs.Ytdphljhhcaoleaa
open Go Go.RowKit

def inV (v : View) (p : Int × Int) : Prop := (0 ≤ p.1 ∧ p.1 ≤ v.size) ∧ (0 ≤ p.2 ∧ p.2 ≤ v.size)
/-- Two views whose centres answer to each other. -/
structure Twin (v v' : View) (f : Int × Int → Int × Int) : Prop where
  n1 : v.Near
  n2 : v'.Near
  fw : ∀ p, inV v p → inV v' (f p)
  bw : ∀ p, inV v' p → ∃ q, inV v q ∧ f q = p
  tr : ∀ p, tru v' (f p) = tru v p
theorem Twin.mem {v v' : View} {f : Int × Int → Int × Int} (h : Twin v v' f) {p : Int × Int} (hp : p ∈ trus v) : f p ∈ trus v' := by
  obtain ⟨h1, h2, h3⟩ := trus_size h.n1 hp
  obtain ⟨g1, g2⟩ := h.fw p ⟨h1, h2⟩
  exact trus_mem h.n2 (x := (f p).1) (y := (f p).2) g1 g2 ((h.tr p).trans h3)
theorem Twin.from_ {v v' : View} {f : Int × Int → Int × Int} (h : Twin v v' f) {p : Int × Int} (hp : p ∈ trus v') : ∃ q ∈ trus v, f q = p := by
  obtain ⟨h1, h2, h3⟩ := trus_size h.n2 hp
  obtain ⟨q, ⟨g1, g2⟩, rfl⟩ := h.bw p ⟨h1, h2⟩
  exact ⟨q, trus_mem h.n1 (x := q.1) (y := q.2) g1 g2 ((h.tr q).symm.trans h3), rfl⟩
theorem Twin.any {v v' : View} {f : Int × Int → Int × Int} (h : Twin v v' f) {g g' : Int × Int → Bool} (hg : ∀ p, g' (f p) = g p) : (trus v').any g' = (trus v).any g := by
  rw [Bool.eq_iff_iff, List.any_eq_true, List.any_eq_true]
  constructor
  · rintro ⟨p, hp, h1⟩
    obtain ⟨q, hq, rfl⟩ := h.from_ hp
    exact ⟨q, hq, (hg q).symm.trans h1⟩
  · rintro ⟨p, hp, h1⟩
    exact ⟨f p, h.mem hp, (hg p).trans h1⟩
theorem none0_any (v : View) : none0 v = !(trus v).any fun _ => true := by
  unfold none0
  cases trus v <;> simp
  omega
theorem Twin.none {v v' : View} {f : Int × Int → Int × Int} (h : Twin v v' f) : none0 v' = none0 v := by
  rw [none0_any, none0_any, h.any (g := fun _ => true) fun _ => rfl]
theorem Twin.call {v v' : View} {f : Int × Int → Int × Int} (h : Twin v v' f) {b b' : Box} (hs : ∀ p, tch (smallM v' (f p)) b' = tch (smallM v p) b) (hl : ∀ p, tch (largeM v' (f p)) b' = tch (largeM v p) b) : callV v' b' = callV v b := by
  unfold callV
  rw [h.none, h.any (g := fun p => !tch (smallM v p) b) (fun p => by rw [hs]), h.any (g := fun p => tch (largeM v p) b) hl]

/-! #### as many centres -/
theorem len_sub {α : Type} [DecidableEq α] : ∀ {l l' : List α}, l.Nodup → (∀ x ∈ l, x ∈ l') → l.length ≤ l'.length
  | [], l', _, _ => Nat.zero_le _
  | a :: l, l', hn, hs => by
    have ha := hs a (by simp)
    have h1 : l.length ≤ (l'.erase a).length := len_sub (List.nodup_cons.1 hn).2 fun x hx => (List.mem_erase_of_ne (fun e => (List.nodup_cons.1 hn).1 (by rw [← e]; exact hx))).2 (hs x (by simp [hx]))
    have h2 := List.length_erase_of_mem ha
    have h3 := List.length_pos_of_mem ha
    simp only [List.length_cons]; omega
theorem ctr_inj {v : View} {i j : Nat} (h : ctr v i = ctr v j) : i = j := by
  simp only [ctr, Prod.mk.injEq] at h
  have h1 : i / v.m = j / v.m := by omega
  have h2 : i % v.m = j % v.m := by omega
  rw [← Nat.div_add_mod i v.m, ← Nat.div_add_mod j v.m, h1, h2]
theorem truTo_nodup (v : View) : ∀ k, (truTo v k).Nodup
  | 0 => List.nodup_nil
  | k + 1 => by
    have ih := truTo_nodup v k
    rw [truTo]
    cases tru v (ctr v k)
    · exact ih
    · simp only [cond_true]
      refine List.nodup_append.2 ⟨ih, by simp, fun a ha b hb => ?_⟩
      obtain ⟨j, hj, rfl, _⟩ := truTo_mem ha
      simp only [List.mem_singleton] at hb
      rw [hb]
      exact fun e => by have := ctr_inj e; omega
theorem Twin.len {v v' : View} {f g : Int × Int → Int × Int} (h : Twin v v' f) (hi : ∀ p, g (f p) = p) : (trus v).length = (trus v').length := by
  have a : (trus v).length ≤ (trus v').length := by
    have hn : ((trus v).map f).Nodup := by
      refine List.pairwise_map.2 ((truTo_nodup v _).imp fun {a b} hab e => hab ?_)
      rw [← hi a, e, hi]
    have := len_sub hn (l' := trus v') fun x hx => by
      obtain ⟨p, hp, rfl⟩ := List.mem_map.1 hx
      exact h.mem hp
    rwa [List.length_map] at this
  have b : (trus v').length ≤ (trus v).length := by
    have hn : ((trus v').map g).Nodup := by
      refine List.pairwise_map.2 (List.Pairwise.imp_of_mem (fun ha hb hab e => hab ?_) (truTo_nodup v' _))
      obtain ⟨p, _, rfl⟩ := h.from_ ha
      obtain ⟨q, _, rfl⟩ := h.from_ hb
      rw [hi, hi] at e
      rw [e]
    have := len_sub hn (l' := trus v) fun x hx => by
      obtain ⟨p, hp, rfl⟩ := List.mem_map.1 hx
      obtain ⟨q, hq, rfl⟩ := h.from_ hp
      rw [hi]; exact hq
    rwa [List.length_map] at this
  omega

/-! #### X and Y exchanged -/
def swS (s : Strip) : Strip := ⟨s.q, s.p, s.lo, s.hi⟩
def swV (v : View) : View := ⟨v.size, v.strips.map swS, v.wr, v.hyl, v.hyh, v.hxl, v.hxh⟩
def swB (b : Box) : Box := ⟨b.b, b.t, b.l, b.r⟩
def swP (p : Int × Int) : Int × Int := (p.2, p.1)
theorem tru_map {v v' : View} {f : Strip → Strip} {x y x' y' : Int} (hs : v'.strips = v.strips.map f) (hw : v'.wr = v.wr) (h : ∀ s, miss (f s) x' y' = miss s x y) : tru v' (x', y') = tru v (x, y) := by
  unfold tru
  rw [wrongs_count, wrongs_count, hs, hw, List.countP_map]
  have : (fun s => miss s x' y') ∘ f = fun s => miss s x y := funext h
  rw [this]
theorem sw_miss (s : Strip) (x y : Int) : miss (swS s) y x = miss s x y := by
  simp only [miss, swS]; rw [Int.add_comm]
theorem sw_twin {v : View} (hv : v.Near) : Twin v (swV v) swP := by
  obtain ⟨a1, a2, a3, a4, a5, a6, a7, a8, a9, a10⟩ := hv
  refine ⟨⟨a1, a2, a3, a4, a5, a6, a7, a8, a9, a10⟩, ⟨a1, a2, a6, a7, a8, a3, a4, a5, by simpa [swV] using a9, fun s hs => ?_⟩, fun p ⟨h1, h2⟩ => ⟨h2, h1⟩, fun p ⟨h1, h2⟩ => ⟨(p.2, p.1), ⟨h2, h1⟩, rfl⟩, fun p => tru_map rfl rfl fun s => sw_miss s _ _⟩
  obtain ⟨t, ht, rfl⟩ := List.mem_map.1 hs
  obtain ⟨b1, b2, b3, b4⟩ := a10 t ht
  exact ⟨b3, b4, b1, b2⟩
theorem sw_tch (m : Mark) (b : Box) : tch ⟨m.y, m.x, m.hy, m.hx⟩ (swB b) = tch m b := by
  unfold tch swB
  rw [decide_eq_decide]
  dsimp only
  rw [Int.add_comm, Int.mul_comm m.hy m.hx]
theorem sw_call {v : View} (hv : v.Near) (b : Box) : callV (swV v) (swB b) = callV v b :=
  (sw_twin hv).call (fun p => sw_tch (smallM v p) b) (fun p => sw_tch (largeM v p) b)
theorem sw_bad (v : View) : vbad (swV v) = vbad v := by
  have h1 : (v.strips.map swS).any (fun s => !iStrip s) = v.strips.any (fun s => !iStrip s) := by
    rw [List.any_map]
    congr 1
    funext s
    show (!iStrip (swS s)) = !iStrip s
    congr 1
    rw [Bool.eq_iff_iff]
    simp only [iStrip, Bool.and_eq_true, Bool.or_eq_true]
    exact ⟨fun ⟨⟨⟨a, b⟩, c⟩, d⟩ => ⟨⟨⟨b, a⟩, c.symm⟩, d⟩, fun ⟨⟨⟨a, b⟩, c⟩, d⟩ => ⟨⟨⟨b, a⟩, c.symm⟩, d⟩⟩
  unfold vbad
  simp only [swV, h1, List.length_map]
  rw [Bool.or_assoc _ (!isp v.hyl v.hyh 1 9), Bool.or_comm (!isp v.hyl v.hyh 1 9), ← Bool.or_assoc]
theorem sw_bbad (b : Box) : bbad (swB b) = bbad b := by
  unfold bbad swB
  exact Bool.or_comm _ _
theorem sw_len {v : View} (hv : v.Near) : (trus v).length = (trus (swV v)).length := (sw_twin hv).len (g := swP) fun _ => rfl

/-! #### X mirrored -/
def miS (S : Int) (s : Strip) : Strip := ⟨-s.p, s.q, s.lo - s.p * S, s.hi - s.p * S⟩
def miV (v : View) : View := ⟨v.size, v.strips.map (miS v.size), v.wr, v.hxl, v.hxh, v.hyl, v.hyh⟩
def miB (S : Int) (b : Box) : Box := ⟨S - b.r, S - b.l, b.b, b.t⟩
def miP (S : Int) (p : Int × Int) : Int × Int := (S - p.1, p.2)
theorem mi_miss (S : Int) (s : Strip) (x y : Int) : miss (miS S s) (S - x) y = miss s x y := by
  have e : -s.p * (S - x) + s.q * y = (s.p * x + s.q * y) - s.p * S := by
    rw [Int.neg_mul, Int.mul_sub]; omega
  unfold miss
  congr 1
  rw [Bool.eq_iff_iff, wi_iff, wi_iff]
  dsimp only [miS]
  rw [e]
  omega
theorem mi_twin {v : View} (hv : v.Near) : Twin v (miV v) (miP v.size) := by
  have hv' := hv
  obtain ⟨a1, a2, a3, a4, a5, a6, a7, a8, a9, a10⟩ := hv
  refine ⟨hv', ⟨a1, a2, a3, a4, a5, a6, a7, a8, by simpa [miV] using a9, fun s hs => ?_⟩, fun p ⟨h1, h2⟩ => ⟨by simp only [miP, miV]; omega, h2⟩, fun p ⟨h1, h2⟩ => ⟨(v.size - p.1, p.2), ⟨by simp only [miV] at h1 ⊢; omega, h2⟩, ?_⟩, fun p => tru_map rfl rfl fun s => mi_miss v.size s _ _⟩
  · obtain ⟨t, ht, rfl⟩ := List.mem_map.1 hs
    obtain ⟨b1, b2, b3, b4⟩ := a10 t ht
    simp only [miS]; omega
  · simp only [miP]
    rw [show v.size - (v.size - p.1) = p.1 by omega]
theorem mi_bey (S x l r : Int) : bey (S - x) (S - r) (S - l) = bey x l r := by unfold bey; omega
theorem mi_tch (S : Int) (m : Mark) (b : Box) : tch ⟨S - m.x, m.y, m.hx, m.hy⟩ (miB S b) = tch m b := by
  simp only [tch, miB, mi_bey]
theorem mi_call {v : View} (hv : v.Near) (b : Box) : callV (miV v) (miB v.size b) = callV v b :=
  (mi_twin hv).call (fun p => mi_tch v.size (smallM v p) b) (fun p => mi_tch v.size (largeM v p) b)
theorem mi_wid (v : View) (k : Int) : wid (miV v) k = miV (wid v k) := by
  simp only [wid, miV, List.map_map]
  congr 1
  refine List.map_congr_left fun s _ => ?_
  simp only [Function.comp, wid1, miS, Strip.mk.injEq, true_and]
  omega
theorem mi_bbad {v : View} {b : Box} (hb : b.Ok) (hv : v.Near) (hr : b.r ≤ v.size) : bbad (miB v.size b) = false := by
  have := hb.k0; have := hb.k1; have := hb.k3; have := hb.k4; have := hb.k5; have := hv.s1
  simp only [bbad, miB, Bool.or_eq_false_iff, Bool.not_eq_false', isp_iff]
  omega
theorem callE_good {v : View} {b : Box} (hvb : vbad v = false) (hbb : bbad b = false) : callE v b = (bif decide (callV v b = 0) then 3 else 0) ∧ callN v b = callV v b := by
  have h0 : chkVB v b = 0 := by simp [chkVB, chkV, hvb, chkB, hbb]
  refine ⟨by simp [callE, h0], ?_⟩
  simp only [callN, h0, decide_true, Bool.not_true, cond_false]
  by_cases h : callV v b = 0 <;> simp [h]
theorem sw_facts {v : View} {b : Box} (hvb : vbad v = false) (hbb : bbad b = false) : callN (swV v) (swB b) = callN v b ∧ callE (swV v) (swB b) = callE v b ∧ (knownL (swV v)).length = (knownL v).length ∧ knownE (swV v) = knownE v := by
  have hvn := vbad_near hvb
  have hvb' : vbad (swV v) = false := (sw_bad v).trans hvb
  obtain ⟨e1, e2⟩ := callE_good hvb hbb
  obtain ⟨f1, f2⟩ := callE_good hvb' ((sw_bbad b).trans hbb)
  refine ⟨by rw [e2, f2, sw_call hvn], by rw [e1, f1, sw_call hvn], ?_, ?_⟩
  · simp only [knownL, hvb, hvb', cond_false]; exact (sw_len hvn).symm
  · simp only [knownE, hvb, hvb', cond_false, (sw_twin hvn).none]
theorem mi_facts {v : View} {b : Box} (hvb : vbad v = false) (hbb : bbad b = false) (hvb' : vbad (miV v) = false) (hbb' : bbad (miB v.size b) = false) : callN (miV v) (miB v.size b) = callN v b ∧ callE (miV v) (miB v.size b) = callE v b := by
  have hvn := vbad_near hvb
  obtain ⟨e1, e2⟩ := callE_good hvb hbb
  obtain ⟨f1, f2⟩ := callE_good hvb' hbb'
  exact ⟨by rw [e2, f2, mi_call hvn], by rw [e1, f1, mi_call hvn]⟩
theorem mi_slack {v : View} {b : Box} {s e : Int} (hvb : vbad v = false) (hbb : bbad b = false) (hvb' : vbad (miV v) = false) (hbb' : bbad (miB v.size b) = false) (h : SlackR (miV v) (miB v.size b) s e) : SlackR v b s e := by
  have hvn := vbad_near hvb
  obtain ⟨e1, e2⟩ := callE_good hvb hbb
  obtain ⟨f1, f2⟩ := callE_good hvb' hbb'
  have hE : callE (miV v) (miB v.size b) = callE v b := by rw [e1, f1, mi_call hvn]
  have hN : callN (miV v) (miB v.size b) = callN v b := by rw [e2, f2, mi_call hvn]
  have hW : ∀ k : Int, callV (wid (miV v) k) (miB v.size b) = callV (wid v k) b := fun k => by
    rw [mi_wid]; exact mi_call (wid_near hvn) b
  simpa only [SlackR, hE, hN, hW] using h
end Go.Proofs.Ytdphljhhcaoleaa
