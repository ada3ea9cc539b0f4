/- Laws of the seeds apart: where seeds stand, when slots meet, plans without nations. -/
import Derived.Test.YtjkoaifjmcgpfaaED
namespace Go.Proofs.Ytjkoaifjmcgpfaa
open Go Go.RowKit

def meetsF : Nat → Int → Int → Nat
  | 0, _, _ => 0
  | f + 1, a, b => bif decide (a = b) then 0 else meetsF f (a / 2) (b / 2) + 1
structure MZ where
  (a b : Int) (f : Nat)
theorem C_meets (a b : Int) (ha : 0 ≤ a ∧ a ≤ 7) (hb : 0 ≤ b ∧ b ≤ 7) (w : World) : C0 Try.prog 26 [.int .i64 a, .int .i64 b] w (.int .i64 (meetsF 4 a b)) := by
  refine ⟨en Try.func26 Try.ntmps26 (St.init w) (h := fun F => ?_)⟩
  refine sq (h := ?_)
  refine rg (h := ?_)
  refine WL.y (hy := asg) (h := ?_)
  refine nl (h := ?_)
  refine q_seq (h := ?_)
  refine sq (h := ?_)
  refine rg (h := ?_)
  refine WL.y (hy := asg) (h := ?_)
  refine nl (h := ?_)
  refine q_seq (h := ?_)
  refine sq (h := ?_)
  refine bk (h := ?_)
  refine lp (X := MZ) (I := fun z => (0 ≤ z.a ∧ z.a < 2 ^ z.f) ∧ (0 ≤ z.b ∧ z.b < 2 ^ z.f) ∧ z.f ≤ 4 ∧ (4 : Int) - z.f + meetsF z.f z.a z.b = meetsF 4 a b) (le := fun z => [(0, .int .i64 z.a), (1, .int .i64 z.b), (5, .int .i64 (4 - z.f))]) (Le := fun _ => []) (μ := fun z => z.f) ⟨a, b, 4⟩ ⟨by dsimp only; omega, by dsimp only; omega, Nat.le_refl _, by dsimp only; omega⟩ (by repeat (first | exact trivial | refine ⟨rfl, ?_⟩)) (by repeat (first | exact SubL.nil | (apply SubL.cons; (repeat (first | exact At.here | apply At.there))) | exact SubL.refl _ | apply SubL.skip)) (fun z hz => ?_)
  obtain ⟨hz1, hz2, hz3, hz4⟩ := hz
  have h16 : (2 : Int) ^ z.f ≤ 16 := by
    have : z.f = 0 ∨ z.f = 1 ∨ z.f = 2 ∨ z.f = 3 ∨ z.f = 4 := by omega
    rcases this with h | h | h | h | h <;> rw [h] <;> decide
  refine sq (h := ?_)
  refine sq (h := ?_)
  refine rg (h := ?_)
  refine WL.y (hy := mv) (h := ?_)
  refine WL.y (hy := mv) (h := ?_)
  refine WL.y (hy := neq) (h := ?_)
  refine nl (h := ?_)
  refine q_seq (h := ?_)
  refine cd (by exact rfl) (fun h0 => ?_) (fun h0 => ?_)
  · skip
    have hne : ¬ z.a = z.b := by simpa using h0
    obtain ⟨f, hf⟩ : ∃ f, z.f = f + 1 := ⟨z.f - 1, by
      rcases Nat.eq_zero_or_pos z.f with h | h
      · rw [h] at hz1 hz2; simp at hz1 hz2; omega
      · omega⟩
    have hms : meetsF z.f z.a z.b = meetsF f (z.a / 2) (z.b / 2) + 1 := by rw [hf, meetsF, decide_eq_false hne]; rfl
    have hp2 : (2 : Int) ^ z.f = 2 * 2 ^ f := by rw [hf, Int.pow_succ]; omega
    refine skp (h := ?_)
    refine q_seq (h := ?_)
    refine bk (h := ?_)
    refine sq (h := ?_)
    refine rg (h := ?_)
    refine WL.y (hy := mv) (h := ?_)
    refine WL.y (hy := quoI) (h := ?_)
    refine WL.y (hy := mv) (h := ?_)
    refine WL.y (hy := quoI) (h := ?_)
    refine WL.y (hy := asg) (h := ?_)
    refine WL.y (hy := asg) (h := ?_)
    refine nl (h := ?_)
    refine q_seq (h := ?_)
    refine rg (h := ?_)
    refine WL.y (hy := mv) (h := ?_)
    refine WL.y (hy := addI) (h := ?_)
    refine WL.y (hy := asg) (h := ?_)
    refine nl (h := ?_)
    refine q_blk_norm (h := ?_)
    refine rn (x := z) ⟨z.a / 2, z.b / 2, f⟩ ⟨by dsimp only; omega, by dsimp only; omega, by dsimp only; omega, by dsimp only; omega⟩ (by dsimp only; omega) (by dsimp only; repeat (first | exact trivial | refine ⟨rfl, ?_⟩ | refine ⟨by show some (Value.int .i64 (4 - (z.f : Int) + 1)) = some (Value.int .i64 (4 - (f : Int))); congr 2; omega, ?_⟩)) (by repeat (first | exact SubL.nil | (apply SubL.cons; (repeat (first | exact At.here | apply At.there))) | exact SubL.refl _ | apply SubL.skip))
  · skip
    have he : z.a = z.b := by simpa using h0
    have hms : meetsF z.f z.a z.b = 0 := by
      cases hz : z.f with
      | zero => rfl
      | succ f => rw [meetsF, decide_eq_true he]; rfl
    have hfin : (4 : Int) - z.f = meetsF 4 a b := by omega
    rw [hfin]
    refine et (h := ?_)
    refine q_then_exit (h := ?_)
    refine q_then_exit (h := ?_)
    refine q_blk_hit (h := ?_)
    refine q_seq (h := ?_)
    refine sq (h := ?_)
    refine rg (h := ?_)
    refine WL.y (hy := mv) (h := ?_)
    refine WL.y (hy := asg) (h := ?_)
    refine nl (h := ?_)
    refine q_seq (h := ?_)
    refine rtn (h := ?_)
    refine q_ret (hR := ?_)
    exact fun w hS => ⟨rfl, hS.sub (by repeat (first | exact SubL.nil | (apply SubL.cons; (repeat (first | exact At.here | apply At.there))) | exact SubL.refl _ | apply SubL.skip))⟩
def freeP (x : Ps) : Ps := ⟨x.player, 0, x.qual⟩
def freeQ (p : Pl) : Pl := { p with ps := p.ps.map freeP }
theorem encPs_nat {ps : List Ps} {k : Nat} {x : Ps} (h : ps[k]? = some x) : (encPs (mix freeP ps k)).set k (x.enc.set 1 (.int .i64 0)) = encPs (mix freeP ps (k + 1)) := by
  rw [← mix_set h]
  show (encPs (mix freeP ps k)).set k (freeP x).enc = _
  rw [encPs_set]
section
variable {p : Pl}
theorem free_at (n : Int) : (psAt (freeQ p) n).player = (psAt p n).player ∧ (psAt (freeQ p) n).nation = 0 ∧ (psAt (freeQ p) n).qual = (psAt p n).qual := by
  unfold psAt freeQ
  simp only [List.getElem?_map]
  cases p.ps[n.toNat]? with
  | none => exact ⟨rfl, rfl, rfl⟩
  | some x => exact ⟨rfl, rfl, rfl⟩
theorem free_len : (freeQ p).ps.length = p.ps.length := by simp [freeQ]
theorem free_ok (hb : pOk p = true) : pOk (freeQ p) = true := by
  have hp : ∀ k, k ≤ p.ps.length → pssOk p.seeds (freeQ p).ps k = true := fun k => by
    induction k with
    | zero => intro _; rfl
    | succ k ih =>
      intro hk
      have hx : p.ps[k]? = some p.ps[k] := List.getElem?_eq_getElem (by omega)
      have hx' : (freeQ p).ps[k]? = some (freeP p.ps[k]) := by rw [freeQ, List.getElem?_map, hx]; rfl
      have hall : pssOk p.seeds p.ps p.ps.length = true := by
        simp only [pOk, Bool.and_eq_true] at hb; exact hb.1.2
      obtain ⟨h1, h2⟩ := pssOk_all hall k _ (by omega) hx
      rw [pssOk_succ hx', ih (by omega), Bool.true_and, Bool.and_eq_true, Bool.not_eq_true']
      constructor
      · unfold dupP at h2 ⊢
        rw [freeQ, ← List.map_take, List.any_map]
        exact h2
      · simp only [psOk, Bool.and_eq_true] at h1 ⊢
        exact ⟨⟨h1.1.1, rfl⟩, h1.2⟩
  have h1 : headOk (freeQ p) = headOk p := by unfold headOk; rw [free_len]; rfl
  simp only [pOk, Bool.and_eq_true] at hb ⊢
  refine ⟨⟨h1 ▸ hb.1.1, ?_⟩, hb.2⟩
  rw [free_len]; exact hp _ (Nat.le_refl _)
theorem free_apart {x y : Int} (h : apartV p x y = true) : apartV (freeQ p) x y = true := by
  unfold apartV at h ⊢
  cases hc : decide (x = -1) || decide (y = -1)
  · rw [hc] at h
    simp only [cond_false] at h ⊢
    rw [(free_at x).2.1, (free_at x).2.2, (free_at y).2.2]
    rw [Bool.and_eq_true] at h
    rw [h.2]; simp
  · rw [hc] at h; exact h
theorem free_ob {v : List Int} (h : obTo p v v.length = true) : obTo (freeQ p) v v.length = true := by
  have hby : byesV (freeQ p) = byesV p := by unfold byesV; rw [free_len]; rfl
  have hbe : ∀ x y, byeV (freeQ p) x y = byeV p x y := fun x y => by unfold byeV; rw [hby]; rfl
  refine (obTo_iff _ _ _).2 fun k hk => ?_
  obtain ⟨h1, h2⟩ := (obTo_iff _ _ _).1 h k hk
  refine ⟨h1, fun ho => ?_⟩
  have h3 := (matchV_iff _ _ _).1 (h2 ho)
  refine (matchV_iff _ _ _).2 ⟨?_, free_apart h3.2.1, ?_, ?_⟩
  · rw [hby]; exact h3.1
  · rw [hbe]; exact h3.2.2.1
  · rw [hbe]; exact h3.2.2.2
theorem free_rk : rkV (freeQ p) = rkV p := by
  have hlt : ltP (freeQ p) = ltP p := by
    funext x y
    unfold ltP cmpP
    rw [(free_at x).1, (free_at y).1]
  rw [rkV, rkV, free_len, hlt]
theorem free_enum : ∀ (f : Nat) (l : List Int) (byes : Int), enumV (freeQ p) f l byes = enumV p f l byes
  | 0, _, _ => rfl
  | f + 1, l, byes => by
    rw [enumV, enumV, free_rk]
    exact flatMap_congr_ fun n _ => by rw [free_enum f]
theorem filter_le {α : Type} {p q : α → Bool} : ∀ {l : List α}, (∀ x ∈ l, p x = true → q x = true) → (l.filter p).length ≤ (l.filter q).length
  | [], _ => Nat.le_refl _
  | x :: l, h => by
    have ih := filter_le (p := p) (q := q) (l := l) fun y hy => h y (List.mem_cons_of_mem _ hy)
    rw [List.filter_cons, List.filter_cons]
    cases hp : p x
    · cases q x <;> simp <;> omega
    · rw [h x (by simp) hp]; simp; exact ih
/-- Without nations there are at least as many draws. -/
theorem free_more (hb : pOk p = true) : (drawsV p).length ≤ (drawsV (freeQ p)).length := by
  have hq := p_ok hb
  have hqn := hq.n
  have h0 : 0 ≤ byesV p := by unfold byesV; omega
  have hby : byesV (freeQ p) = byesV p := by unfold byesV; rw [free_len]; rfl
  have hn : NoRep [] := fun i j y h => by simp at h
  have hf := free_enum (p := p) p.size.toNat [] (byesV p)
  have e1 : drawsV p = (enumV p p.size.toNat [] (byesV p)).filter fun v => obTo p v v.length := by rw [drawsV]; exact more_enum _ _ _ (fun x hx => by cases hx) hn h0 rfl
  have e2 : drawsV (freeQ p) = (enumV p p.size.toNat [] (byesV p)).filter fun v => obTo (freeQ p) v v.length := by
    rw [drawsV, more_enum _ _ _ (fun x hx => by cases hx) hn (by rw [hby]; exact h0) rfl, hby]
    show (enumV (freeQ p) p.size.toNat [] (byesV p)).filter _ = _
    rw [hf]
  rw [e1, e2]
  exact filter_le fun v _ h => free_ob h
/-! #### where the seeds stand -/
theorem seed_at (hb : pOk p = true) {l : List Int} (hs : isShV p l = true) (hl : legalV p l = true) {s : Nat} (h : (s : Int) < p.seeds) :
    ∃ q : Nat, atV p l s = q ∧ q < l.length ∧ l[q]? = some (psAt p s).player ∧ (∀ i : Nat, l[i]? = some (psAt p s).player → i = q) ∧ ((s = 0 → (q : Int) = 0) ∧ (s = 1 → (q : Int) = p.size - 1) ∧ (2 ≤ s → (q : Int) = p.size / 4 ∨ (q : Int) = p.size - 1 - p.size / 4)) ∧ (facV q).toNat = facN q ∧ 0 ≤ facV q ∧ facV q < l.length ∧ (decide ((s : Int) < byesV p) == decide (l.getD (facV q).toNat 0 = -1)) = true := by
  have hq := p_ok hb
  have hz := hq.z
  have hqs := hq.s
  have hsh := sh_ok hb hs
  have hlen := hsh.len
  rw [legalV, Bool.and_eq_true, Bool.and_eq_true] at hl
  have hfull := hl.1.1
  have hok := (seedTo_iff p l _).1 hl.2 s (by omega)
  have hsn : s < p.ps.length := by omega
  have hx := ps_get (p := p) hsn
  have hin : inV l (psAt p s).player = true := by
    unfold fullV at hfull
    rw [Bool.not_eq_true', List.any_eq_false] at hfull
    have := hfull _ (List.mem_of_getElem? hx)
    simpa using this
  obtain ⟨q, h1, h2, h3⟩ := slot_in hin
  have hat : atV p l s = q := h1
  rw [seedOk, hat, Bool.and_eq_true, Bool.not_eq_true', seatBad_no] at hok
  have hf := facN_lt (S := l.length) (by omega) h2
  have hfv := facV_nat q
  refine ⟨q, hat, h2, h3, fun i hi => hsh.uq i q _ hi h3 (num_of hq hx).2, hok.1, hfv, ?_, ?_, hok.2⟩
  · unfold facV
    by_cases e : (q : Int) % 2 = 0
    · rw [decide_eq_true e]; simp only [cond_true]; omega
    · rw [decide_eq_false e]; simp only [cond_false]; omega
  · have : 0 ≤ facV q := by
      unfold facV
      by_cases e : (q : Int) % 2 = 0
      · rw [decide_eq_true e]; simp only [cond_true]; omega
      · rw [decide_eq_false e]; simp only [cond_false]; omega
    omega
def rdsV (p : Pl) : Int := bif decide (p.size = 8) then 3 else 2
theorem meets_law (hq : p.Ok) {i k qi qk : Nat} (hki : k < i) (hi : (i : Int) < p.seeds) (hne : qi ≠ qk)
    (h1 : ((i = 0 → (qi : Int) = 0) ∧ (i = 1 → (qi : Int) = p.size - 1) ∧ (2 ≤ i → (qi : Int) = p.size / 4 ∨ (qi : Int) = p.size - 1 - p.size / 4)))
    (h2 : ((k = 0 → (qk : Int) = 0) ∧ (k = 1 → (qk : Int) = p.size - 1) ∧ (2 ≤ k → (qk : Int) = p.size / 4 ∨ (qk : Int) = p.size - 1 - p.size / 4))) :
    ¬ ((meetsF 4 qi qk : Int) < rdsV p - 1) ∧ ((i : Int) = 1 → (meetsF 4 qi qk : Int) = rdsV p) := by
  have hz := hq.z
  have hs := hq.s
  rcases hz with hz | hz
  · have e1 : i = 1 := by omega
    have e2 : k = 0 := by omega
    subst e1 e2
    have a1 : qi = 3 := by omega
    have a2 : qk = 0 := by omega
    subst a1 a2
    rw [rdsV, hz]
    exact ⟨by decide, fun _ => by decide⟩
  · rw [rdsV, hz]
    by_cases hi1 : i = 1
    · have e2 : k = 0 := by omega
      subst hi1 e2
      have a1 : qi = 7 := by omega
      have a2 : qk = 0 := by omega
      subst a1 a2
      exact ⟨by decide, fun _ => by decide⟩
    · refine ⟨?_, fun h => absurd h (by omega)⟩
      have a1 : qi = 2 ∨ qi = 5 := by omega
      have a2 : qk = 0 ∨ qk = 7 ∨ qk = 2 ∨ qk = 5 := by omega
      rcases a1 with rfl | rfl <;> rcases a2 with rfl | rfl | rfl | rfl <;> first | exact absurd rfl hne | decide
end
end Go.Proofs.Ytjkoaifjmcgpfaa
