/- The plain words of 'lines': strips, views, boxes, marks and what is reckoned with them; no program is named here. -/
import Derived.Test.YtdphljhhcaoleaaW9
namespace Go.Proofs.Ytdphljhhcaoleaa
open Go

theorem cdT' {α β : Type} {b : Bool} {x y : α} (f : α → β) (h : b = true) : f x = f (cond b x y) := by rw [h]; rfl
theorem cdF' {α β : Type} {b : Bool} {x y : α} (f : α → β) (h : b = false) : f y = f (cond b x y) := by rw [h]; rfl

def encI (xs : List Int) : List (List Value) := xs.map fun x => [.int .i64 x]
theorem encI_app (xs : List Int) (x : Int) : encI xs ++ [[.int .i64 x]] = encI (xs ++ [x]) := by simp [encI]
theorem encI_len (xs : List Int) : (encI xs).length = xs.length := by simp [encI]

structure Strip where
  (p q lo hi : Int)
def Strip.enc (s : Strip) : List Value := [.int .i64 s.p, .int .i64 s.q, .int .i64 s.lo, .int .i64 s.hi]
structure View where
  (size : Int) (strips : List Strip) (wr hxl hxh hyl hyh : Int)
abbrev View.val (v : View) (A : Option Addr) (n c : Nat) : Value := .agg #[.int .i64 v.size, .slice A n c, .int .i64 v.wr, .int .i64 v.hxl, .int .i64 v.hxh, .int .i64 v.hyl, .int .i64 v.hyh]
abbrev View.cells (v : View) (A : Option Addr) (n c : Nat) : List Value := [.int .i64 v.size, .slice A n c, .int .i64 v.wr, .int .i64 v.hxl, .int .i64 v.hxh, .int .i64 v.hyl, .int .i64 v.hyh]
abbrev View.enc (v : View) : List (List Value) := v.strips.map Strip.enc
structure Box where
  (l r b t : Int)
abbrev Box.val (b : Box) : Value := .agg #[.int .i64 b.l, .int .i64 b.r, .int .i64 b.b, .int .i64 b.t]
structure Mark where
  (x y hx hy : Int)
abbrev Mark.val (m : Mark) : Value := .agg #[.int .i64 m.x, .int .i64 m.y, .int .i64 m.hx, .int .i64 m.hy]

/-! #### as the package says -/
def wi (n lo hi : Int) : Bool := decide (lo ≤ n) && decide (n ≤ hi)
def isp (l h lo hi : Int) : Bool := decide (l ≤ h) && wi l lo hi && wi h lo hi
def iStrip (s : Strip) : Bool := wi s.p (-3) 3 && wi s.q (-3) 3 && (!decide (s.p = 0) || !decide (s.q = 0)) && isp s.lo s.hi (-500) 500
def vbad (v : View) : Bool := v.strips.any (fun s => !iStrip s) || decide ((8 : Int) < v.strips.length) || !wi v.size 0 40 || !wi v.wr 0 3 || !isp v.hxl v.hxh 1 9 || !isp v.hyl v.hyh 1 9
def chkV (v : View) : Int := bif vbad v then 20 else 0
def bbad (b : Box) : Bool := !isp b.l b.r 0 40 || !isp b.b b.t 0 40
def chkB (b : Box) : Int := bif bbad b then 21 else 0
def bey (n lo hi : Int) : Int := max (max 0 (lo - n)) (n - hi)
def tch (m : Mark) (b : Box) : Bool :=
  decide (bey m.x b.l b.r * m.hy * (bey m.x b.l b.r * m.hy) + bey m.y b.b b.t * m.hx * (bey m.y b.b b.t * m.hx) ≤ m.hx * m.hy * (m.hx * m.hy))
def mbad (m : Mark) : Bool := !wi m.x 0 40 || !wi m.y 0 40 || !wi m.hx 1 9 || !wi m.hy 1 9

theorem wi_iff {n lo hi : Int} : wi n lo hi = true ↔ lo ≤ n ∧ n ≤ hi := by simp [wi]
theorem wi_not {n lo hi : Int} : (!wi n lo hi) = false ↔ lo ≤ n ∧ n ≤ hi := by simp [wi]
theorem isp_iff {l h lo hi : Int} : isp l h lo hi = true ↔ l ≤ h ∧ lo ≤ l ∧ h ≤ hi := by
  simp only [isp, Bool.and_eq_true, decide_eq_true_eq, wi_iff]; omega

structure Box.Ok (b : Box) : Prop where
  k0 : 0 ≤ b.l
  k1 : b.l ≤ b.r
  k2 : b.r ≤ 40
  k3 : 0 ≤ b.b
  k4 : b.b ≤ b.t
  k5 : b.t ≤ 40
structure Mark.Ok (m : Mark) : Prop where
  x0 : 0 ≤ m.x
  x1 : m.x ≤ 40
  y0 : 0 ≤ m.y
  y1 : m.y ≤ 40
  hx0 : 1 ≤ m.hx
  hx1 : m.hx ≤ 9
  hy0 : 1 ≤ m.hy
  hy1 : m.hy ≤ 9
theorem bbad_ok {b : Box} (h : bbad b = false) : b.Ok := by
  simp only [bbad, Bool.or_eq_false_iff, Bool.not_eq_false', isp_iff] at h
  exact ⟨by omega, by omega, by omega, by omega, by omega, by omega⟩
theorem mbad_ok {m : Mark} (h : mbad m = false) : m.Ok := by
  simp only [mbad, Bool.or_eq_false_iff, wi_not] at h
  exact ⟨by omega, by omega, by omega, by omega, by omega, by omega, by omega, by omega⟩
theorem mul_bnd {a b A B : Int} (ha : 0 ≤ a ∧ a ≤ A) (hb : 0 ≤ b ∧ b ≤ B) : 0 ≤ a * b ∧ a * b ≤ A * B :=
  ⟨Int.mul_nonneg ha.1 hb.1, Int.mul_le_mul ha.2 hb.2 hb.1 (by omega)⟩
theorem mul_abs {p x : Int} (h1 : -3 ≤ p) (h2 : p ≤ 3) (hx : 0 ≤ x ∧ x ≤ 40) : -120 ≤ p * x ∧ p * x ≤ 120 := by
  have e : ∀ q : Int, 0 ≤ q → q ≤ 3 → 0 ≤ q * x ∧ q * x ≤ 120 := fun q a b => by have := mul_bnd (a := q) (A := 3) ⟨a, b⟩ hx; omega
  by_cases hp : 0 ≤ p
  · have := e p hp h2; omega
  · have := e (-p) (by omega) (by omega)
    rw [Int.neg_mul] at this; omega
theorem bey_bnd {n lo hi : Int} (h : 0 ≤ n ∧ n ≤ 40 ∧ 0 ≤ lo ∧ lo ≤ 40 ∧ 0 ≤ hi ∧ hi ≤ 40) : 0 ≤ bey n lo hi ∧ bey n lo hi ≤ 40 := by unfold bey; omega
structure TchBnd (m : Mark) (b : Box) : Prop where
  k1 : 0 ≤ bey m.x b.l b.r * m.hy ∧ bey m.x b.l b.r * m.hy ≤ 360
  k2 : 0 ≤ bey m.y b.b b.t * m.hx ∧ bey m.y b.b b.t * m.hx ≤ 360
  k3 : 0 ≤ m.hx * m.hy ∧ m.hx * m.hy ≤ 81
  k4 : 0 ≤ bey m.x b.l b.r * m.hy * (bey m.x b.l b.r * m.hy) ∧ bey m.x b.l b.r * m.hy * (bey m.x b.l b.r * m.hy) ≤ 129600
  k5 : 0 ≤ bey m.y b.b b.t * m.hx * (bey m.y b.b b.t * m.hx) ∧ bey m.y b.b b.t * m.hx * (bey m.y b.b b.t * m.hx) ≤ 129600
  k6 : 0 ≤ m.hx * m.hy * (m.hx * m.hy) ∧ m.hx * m.hy * (m.hx * m.hy) ≤ 6561
theorem tch_bnd {m : Mark} {b : Box} (hm : m.Ok) (hb : b.Ok) : TchBnd m b := by
  obtain ⟨a1, a2, a3, a4, a5, a6, a7, a8⟩ := hm
  obtain ⟨b1, b2, b3, b4, b5, b6⟩ := hb
  have e1 := bey_bnd (n := m.x) (lo := b.l) (hi := b.r) (by omega)
  have e2 := bey_bnd (n := m.y) (lo := b.b) (hi := b.t) (by omega)
  have f1 := mul_bnd e1 (b := m.hy) (B := 9) (by omega)
  have f2 := mul_bnd e2 (b := m.hx) (B := 9) (by omega)
  have f3 := mul_bnd (a := m.hx) (A := 9) (by omega) (b := m.hy) (B := 9) (by omega)
  exact ⟨f1, f2, f3, mul_bnd f1 f1, mul_bnd f2 f2, mul_bnd f3 f3⟩
/-- What keeps the sums in range: the strips' slopes, the size, the half axes. -/
structure View.Near (v : View) : Prop where
  s0 : 0 ≤ v.size
  s1 : v.size ≤ 40
  hx0 : 1 ≤ v.hxl
  hx : v.hxl ≤ v.hxh
  hx1 : v.hxh ≤ 9
  hy0 : 1 ≤ v.hyl
  hy : v.hyl ≤ v.hyh
  hy1 : v.hyh ≤ 9
  len : v.strips.length ≤ 8
  slope : ∀ s ∈ v.strips, -3 ≤ s.p ∧ s.p ≤ 3 ∧ -3 ≤ s.q ∧ s.q ≤ 3
theorem vbad_near {v : View} (h : vbad v = false) : v.Near := by
  simp only [vbad, Bool.or_eq_false_iff, Bool.not_eq_false', isp_iff, wi_iff, decide_eq_false_iff_not, List.any_eq_false] at h
  obtain ⟨⟨⟨⟨⟨hs, hl⟩, hz⟩, hw⟩, hx⟩, hy⟩ := h
  refine ⟨by omega, by omega, by omega, by omega, by omega, by omega, by omega, by omega, by omega, fun s hm => ?_⟩
  have := hs s hm
  simp only [iStrip, Bool.not_eq_true, Bool.not_eq_false', Bool.and_eq_true, wi_iff] at this
  omega

/-- A property of the k-th element. -/
def pAt {α : Type} (ss : List α) (q : α → Bool) (k : Nat) : Bool := match ss[k]? with
  | some s => q s
  | none => false
theorem pAt_eq {α : Type} {ss : List α} {q : α → Bool} {k : Nat} {s : α} (h : ss[k]? = some s) : pAt ss q k = q s := by simp only [pAt, h]
theorem pAt_any {α : Type} (ss : List α) (q : α → Bool) : (List.range ss.length).any (pAt ss q) = ss.any q := by
  rw [Bool.eq_iff_iff]
  simp only [List.any_eq_true, List.mem_range]
  constructor
  · rintro ⟨k, hk, h⟩
    simp only [pAt, List.getElem?_eq_getElem hk] at h
    exact ⟨ss[k], List.getElem_mem hk, h⟩
  · rintro ⟨s, hs, h⟩
    obtain ⟨k, hk, rfl⟩ := List.getElem_of_mem hs
    exact ⟨k, hk, by simp only [pAt, List.getElem?_eq_getElem hk]; exact h⟩
/-- The first index of which p says yes, or -1. -/
def Fst (p : Nat → Bool) (n : Nat) (j : Int) : Prop := (∃ k : Nat, k < n ∧ j = k ∧ p k = true ∧ ∀ i, i < k → p i = false) ∨ (j = -1 ∧ ∀ i, i < n → p i = false)
theorem Fst.any {p : Nat → Bool} {n : Nat} {j : Int} (h : Fst p n j) : decide (0 ≤ j) = (List.range n).any p := by
  rcases h with ⟨k, hk, rfl, hp, _⟩ | ⟨rfl, hp⟩
  · rw [decide_eq_true (by omega)]
    exact (List.any_eq_true.2 ⟨k, by simpa using hk, hp⟩).symm
  · rw [decide_eq_false (by omega)]
    exact (List.any_eq_false.2 fun k hk => by simp [hp k (by simpa using hk)]).symm
theorem enc_at {α : Type} {f : α → List Value} {ss : List α} {k : Nat} {cs : List Value} (h : (ss.map f)[k]? = some cs) : ∃ s, ss[k]? = some s ∧ cs = f s := by
  rw [List.getElem?_map] at h
  cases hs : ss[k]? with
  | none => simp [hs] at h
  | some s => exact ⟨s, rfl, by simpa [hs] using h.symm⟩
theorem take_next {α : Type} {ss : List α} {q : α → Bool} {k : Nat} {s : α} (h : ∀ t ∈ ss.take k, q t = false) (hs : ss[k]? = some s) (hq : q s = false) : ∀ t ∈ ss.take (k + 1), q t = false := by
  rw [List.take_add_one, hs]
  intro t ht
  rcases List.mem_append.1 ht with ht | ht
  · exact h t ht
  · have : t = s := by simpa using ht
    rw [this]; exact hq
/-- A round's state: the index, the row so far. -/
structure LS where
  (k m : Nat) (es : List (List Value)) (A : Option Addr) (c : Nat)

/-! #### the cameras that are wrong -/
def miss (s : Strip) (x y : Int) : Bool := !wi (s.p * x + s.q * y) s.lo s.hi
def wrongTo (ss : List Strip) (x y : Int) : Nat → List Int
  | 0 => []
  | k + 1 => match ss[k]? with
    | some s => bif miss s x y then wrongTo ss x y k ++ [(k : Int)] else wrongTo ss x y k
    | none => wrongTo ss x y k
def wrongs (v : View) (x y : Int) : List Int := wrongTo v.strips x y v.strips.length
theorem wrongTo_succ {ss : List Strip} {x y : Int} {k : Nat} {s : Strip} (h : ss[k]? = some s) : wrongTo ss x y (k + 1) = bif miss s x y then wrongTo ss x y k ++ [(k : Int)] else wrongTo ss x y k := by
  rw [wrongTo]; simp [h]
theorem wrongTo_len (ss : List Strip) (x y : Int) : ∀ k, (wrongTo ss x y k).length ≤ k
  | 0 => by simp [wrongTo]
  | k + 1 => by
    have := wrongTo_len ss x y k
    rw [wrongTo]; split
    · cases miss _ x y <;> simp <;> omega
    · omega

/-! #### the centres, one after the other -/
def View.m (v : View) : Nat := v.size.toNat + 1
def ctr (v : View) (k : Nat) : Int × Int := (((k / v.m : Nat) : Int), ((k % v.m : Nat) : Int))
def encP (ps : List (Int × Int)) : List (List Value) := ps.map fun p => [.int .i64 p.1, .int .i64 p.2]
def tru (v : View) (p : Int × Int) : Bool := decide (((wrongs v p.1 p.2).length : Int) ≤ v.wr)
def truTo (v : View) : Nat → List (Int × Int)
  | 0 => []
  | k + 1 => bif tru v (ctr v k) then truTo v k ++ [ctr v k] else truTo v k
def trus (v : View) : List (Int × Int) := truTo v (v.m * v.m)
theorem truTo_len (v : View) : ∀ k, (truTo v k).length ≤ k
  | 0 => by simp [truTo]
  | k + 1 => by
    have := truTo_len v k
    rw [truTo]; cases tru v (ctr v k) <;> simp <;> omega
theorem m_le {v : View} (h : v.Near) : v.m ≤ 41 := by have := h.s0; have := h.s1; unfold View.m; omega
theorem m_int {v : View} (h : v.Near) : (v.m : Int) = v.size + 1 := by have := h.s0; unfold View.m; omega
theorem ctr_eq {v : View} {i j : Nat} (h : j < v.m) : ctr v (i * v.m + j) = ((i : Int), (j : Int)) := by
  have e1 : (i * v.m + j) / v.m = i := by rw [Nat.mul_comm, Nat.mul_add_div (by omega), Nat.div_eq_of_lt h, Nat.add_zero]
  have e2 : (i * v.m + j) % v.m = j := by rw [Nat.mul_comm, Nat.mul_add_mod, Nat.mod_eq_of_lt h]
  simp only [ctr, e1, e2]
theorem ctr_lt {v : View} (h : v.Near) {k : Nat} (hk : k < v.m * v.m) : (0 ≤ (ctr v k).1 ∧ (ctr v k).1 ≤ 40) ∧ 0 ≤ (ctr v k).2 ∧ (ctr v k).2 ≤ 40 := by
  have h1 : k / v.m < v.m := Nat.div_lt_of_lt_mul hk
  have h2 : k % v.m < v.m := Nat.mod_lt _ (by unfold View.m; omega)
  have h3 := m_le h
  simp only [ctr]
  generalize k / v.m = q at *
  generalize k % v.m = r at *
  omega
theorem ctr_in {m i j : Nat} (hi : i < m) (hj : j < m) : i * m + j < m * m := by
  have := Nat.mul_le_mul_right m (Nat.succ_le_of_lt hi)
  rw [Nat.succ_mul] at this
  omega
theorem encP_app (ps : List (Int × Int)) (p : Int × Int) : encP ps ++ [[.int .i64 p.1, .int .i64 p.2]] = encP (ps ++ [p]) := by simp [encP]
structure LY (Y : Type) where
  (k : Nat) (y : Y)
theorem mm_le {v : View} (h : v.Near) : v.m * v.m ≤ 1681 := Nat.mul_le_mul (m_le h) (m_le h)
def fewTo (v : View) : Nat → Int
  | 0 => v.strips.length
  | k + 1 => min (fewTo v k) ((wrongs v (ctr v k).1 (ctr v k).2).length : Int)
def fewV (v : View) : Int := fewTo v (v.m * v.m)
theorem truTo_mem {v : View} {p : Int × Int} : ∀ {k : Nat}, p ∈ truTo v k → ∃ j, j < k ∧ p = ctr v j ∧ tru v p = true
  | 0, h => by simp [truTo] at h
  | k + 1, h => by
    rw [truTo] at h
    cases ht : tru v (ctr v k) <;> rw [ht] at h
    · obtain ⟨j, hj, h1⟩ := truTo_mem h
      exact ⟨j, by omega, h1⟩
    · rcases List.mem_append.1 h with h | h
      · obtain ⟨j, hj, h1⟩ := truTo_mem h
        exact ⟨j, by omega, h1⟩
      · simp only [List.mem_singleton] at h
        exact ⟨k, by omega, h, by rw [h]; exact ht⟩
theorem trus_rng {v : View} (hv : v.Near) {p : Int × Int} (h : p ∈ trus v) : (0 ≤ p.1 ∧ p.1 ≤ 40) ∧ 0 ≤ p.2 ∧ p.2 ≤ 40 := by
  obtain ⟨j, hj, rfl, _⟩ := truTo_mem h
  exact ctr_lt hv hj
def smallM (v : View) (p : Int × Int) : Mark := ⟨p.1, p.2, v.hxl, v.hyl⟩
def largeM (v : View) (p : Int × Int) : Mark := ⟨p.1, p.2, v.hxh, v.hyh⟩
theorem small_ok {v : View} (hv : v.Near) {p : Int × Int} (h : p ∈ trus v) : (smallM v p).Ok := by
  have := trus_rng hv h; obtain ⟨a1, a2, a3, a4, a5, a6, a7, a8, _, _⟩ := hv
  constructor <;> simp only [smallM] <;> omega
theorem large_ok {v : View} (hv : v.Near) {p : Int × Int} (h : p ∈ trus v) : (largeM v p).Ok := by
  have := trus_rng hv h; obtain ⟨a1, a2, a3, a4, a5, a6, a7, a8, _, _⟩ := hv
  constructor <;> simp only [largeM] <;> omega

/-! #### the calls -/
def none0 (v : View) : Bool := decide (((trus v).length : Int) = 0)
def callV (v : View) (b : Box) : Int :=
  bif none0 v then 0 else bif !((trus v).any fun p => !tch (smallM v p) b) then 1 else bif !((trus v).any fun p => tch (largeM v p) b) then 2 else 3
def chkVB (v : View) (b : Box) : Int := bif !decide (chkV v = 0) then chkV v else chkB b
def callR (v : View) (b : Box) : List Value := bif !decide (chkVB v b = 0) then [.int .i64 0, .int .i64 (chkVB v b)] else bif decide (callV v b = 0) then [.int .i64 0, .int .i64 3] else [.int .i64 (callV v b), .int .i64 0]
def isC (c : Int) : Bool := !decide (c = 1) && !decide (c = 2)
def decR (said : Int) (v : View) (b : Box) : List Value :=
  bif !decide (chkVB v b = 0) then [.int .i64 0, .bool false, .int .i64 (chkVB v b)] else bif isC said then [.int .i64 0, .bool false, .int .i64 22]
  else bif decide (callV v b = 1) || decide (callV v b = 2) then [.int .i64 (callV v b), .bool (!decide (callV v b = said)), .int .i64 0] else [.int .i64 said, .bool true, .int .i64 0]
theorem chkV_ok {v : View} (h : (!decide (chkV v = 0)) = false) : vbad v = false := by
  cases hb : vbad v
  · rfl
  · simp [chkV, hb] at h
theorem chkV_bad {v : View} (h : (!decide (chkV v = 0)) = true) : vbad v = true := by
  cases hb : vbad v
  · simp [chkV, hb] at h
  · rfl
theorem chkVB_ok {v : View} {b : Box} (h : (!decide (chkVB v b = 0)) = false) : vbad v = false ∧ bbad b = false := by
  unfold chkVB at h
  cases hv : !decide (chkV v = 0)
  · rw [hv] at h
    refine ⟨chkV_ok hv, ?_⟩
    cases hb : bbad b
    · rfl
    · simp [chkB, hb] at h
  · rw [hv] at h; simp only [cond_true] at h; rw [h] at hv; cases hv
def knownL (v : View) : List (Int × Int) := bif vbad v then [] else trus v
def knownE (v : View) : Int := bif vbad v then 20 else bif none0 v then 3 else 0

/-- What is reckoned over a list, as a loop does it. -/
def foldTo (f : Int → Int → Int) (g : Int × Int → Int) (a : Int) (l : List (Int × Int)) : Nat → Int
  | 0 => a
  | k + 1 => match l[k]? with
    | some p => f (foldTo f g a l k) (g p)
    | none => foldTo f g a l k
theorem foldTo_succ {f : Int → Int → Int} {g : Int × Int → Int} {a : Int} {l : List (Int × Int)} {k : Nat} {p : Int × Int} (h : l[k]? = some p) : foldTo f g a l (k + 1) = f (foldTo f g a l k) (g p) := by
  rw [foldTo]; simp [h]
def ext (f : Int → Int → Int) (g : Int × Int → Int) (l : List (Int × Int)) : Int := match l with
  | [] => 0
  | p :: _ => foldTo f g (g p) l l.length
/-- The four ends so far. -/
structure LC where
  (k : Nat) (a b c d : Int)
def LC.ok (z : LC) (p0 : Int × Int) (l : List (Int × Int)) : Prop :=
  z.a = foldTo min (·.1) p0.1 l z.k ∧ z.b = foldTo max (·.1) p0.1 l z.k ∧ z.c = foldTo min (·.2) p0.2 l z.k ∧ z.d = foldTo max (·.2) p0.2 l z.k
theorem LC.next {z : LC} {p0 p : Int × Int} {l : List (Int × Int)} (h : z.ok p0 l) (hp : l[z.k]? = some p) : LC.ok ⟨z.k + 1, min z.a p.1, max z.b p.1, min z.c p.2, max z.d p.2⟩ p0 l := by
  obtain ⟨h1, h2, h3, h4⟩ := h
  refine ⟨?_, ?_, ?_, ?_⟩ <;> dsimp only <;> rw [foldTo_succ hp] <;> simp only [h1, h2, h3, h4]
def cenR (v : View) : List Value := [.int .i64 (knownL v).length, .agg #[.int .i64 (ext min (·.1) (knownL v)), .int .i64 (ext max (·.1) (knownL v))], .agg #[.int .i64 (ext min (·.2) (knownL v)), .int .i64 (ext max (·.2) (knownL v))], .int .i64 (knownE v)]
def fewR (v : View) : List Value := bif !decide (chkV v = 0) then [.int .i64 0, .int .i64 (chkV v)] else [.int .i64 (fewV v), .int .i64 0]
theorem LC.cen {v : View} {z : LC} {p0 : Int × Int} {rest : List (Int × Int)} (hl : knownL v = p0 :: rest) (he : knownE v = 0) (h : z.ok p0 (knownL v)) (hk : z.k = (knownL v).length) :
    [Value.int .i64 (knownL v).length, .agg #[.int .i64 z.a, .int .i64 z.b], .agg #[.int .i64 z.c, .int .i64 z.d], .int .i64 0] = cenR v := by
  obtain ⟨h1, h2, h3, h4⟩ := h
  rw [h1, h2, h3, h4, hk, cenR, he, hl]
  rfl
theorem known_err {v : View} (h : (!decide (knownE v = 0)) = true) : knownL v = [] := by
  have h : ¬ knownE v = 0 := by simpa using h
  cases hb : vbad v
  · cases hn : none0 v
    · exact absurd (by simp [knownE, hb, hn]) h
    · have : trus v = [] := by simpa [none0] using hn
      simp [knownL, hb, this]
  · simp [knownL, hb]
theorem known_ok {v : View} (h : (!decide (knownE v = 0)) = false) : knownE v = 0 ∧ vbad v = false ∧ knownL v = trus v ∧ ∃ p0 rest, knownL v = p0 :: rest := by
  have he : knownE v = 0 := by simpa using h
  cases hb : vbad v
  · cases hn : none0 v
    · refine ⟨he, rfl, by simp [knownL, hb], ?_⟩
      simp only [knownL, hb, cond_false]
      cases ht : trus v with
      | nil => simp [none0, ht] at hn
      | cons p0 rest => exact ⟨_, _, rfl⟩
    · simp [knownE, hb, hn] at he
  · simp [knownE, hb] at he
theorem cen_err {v : View} (h : knownL v = []) : [Value.int .i64 0, .agg #[.int .i64 0, .int .i64 0], .agg #[.int .i64 0, .int .i64 0], .int .i64 (knownE v)] = cenR v := by
  rw [cenR, h]; rfl
end Go.Proofs.Ytdphljhhcaoleaa
