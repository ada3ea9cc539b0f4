/- The plain model of score: the fewest further points. -/
import Derived.Test.YtacaojifempclaaSA
namespace Go.Proofs.Ytacaojifempclaa
open Go Go.RowKit

abbrev Plc := Pr × Pr
abbrev Kn := List (Plc × Int)
def kget : Kn → Plc → Option Int
  | [], _ => none
  | e :: t, p => if p = e.1 then some e.2 else kget t p
def kput : Kn → Plc → Int → Kn
  | [], p, v => [(p, v)]
  | e :: t, p, v => if p = e.1 then (p, v) :: t else e :: kput t p v
abbrev keyL (p : Plc) : List Fl := [.i p.1.1, .i p.1.2, .i p.2.1, .i p.2.2]
def encK (t : Kn) : List (List Fl × Value) := t.map fun e => (keyL e.1, .int .i64 e.2)
theorem keyL_inj {p q : Plc} : keyL p = keyL q ↔ p = q := by
  simp only [List.cons.injEq, Fl.i.injEq, and_true]
  exact ⟨fun ⟨a, b, c, d⟩ => Prod.ext (Prod.ext a b) (Prod.ext c d), fun h => by rw [h]; exact ⟨rfl, rfl, rfl, rfl⟩⟩
theorem encK_shape (t : Kn) : ∀ p ∈ encK t, shapeOf p.1 = [false, false, false, false] := fun p hp => by
  obtain ⟨e, _, rfl⟩ := List.mem_map.1 hp
  rfl
theorem lkp_encK : ∀ (t : Kn) (p : Plc), lkp (encK t) (keyL p) = (kget t p).map (.int .i64 ·)
  | [], p => rfl
  | e :: t, p => by
    have ih := lkp_encK t p
    by_cases h : p = e.1
    · rw [kget, if_pos h]
      simp [encK, lkp, h]
    · rw [kget, if_neg h, ← ih]
      have : ¬ keyL p = keyL e.1 := fun h' => h (keyL_inj.1 h')
      simp only [encK, lkp, List.map_cons, List.find?_cons, decide_eq_false this]
theorem upd_encK : ∀ (t : Kn) (p : Plc) (v : Int), updM (encK t) (keyL p) (.int .i64 v) = encK (kput t p v)
  | [], p, v => rfl
  | e :: t, p, v => by
    have ih := upd_encK t p v
    by_cases h : p = e.1
    · rw [kput, if_pos h]
      simp [encK, updM, h]
    · rw [kput, if_neg h]
      have : ¬ keyL p = keyL e.1 := fun h' => h (keyL_inj.1 h')
      simp only [encK, List.map_cons, updM, if_neg this] at ih ⊢
      rw [ih]
theorem getD_encK (o : Option Int) : (o.map (Value.int .i64 ·)).getD (.int .i64 0) = .int .i64 (o.getD 0) := by cases o <;> rfl
theorem isSome_encK (o : Option Int) : (o.map (Value.int .i64 ·)).isSome = o.isSome := by cases o <;> rfl
def farV : Int := 1099511627776
def kOk (t : Kn) : Prop := ∀ e ∈ t, 0 ≤ e.2 ∧ e.2 ≤ farV
theorem kOk_get {t : Kn} (h : kOk t) (p : Plc) : 0 ≤ (kget t p).getD 0 ∧ (kget t p).getD 0 ≤ farV := by
  induction t with
  | nil => simp [kget, farV]
  | cons e t ih =>
    rw [kget]
    by_cases hp : p = e.1
    · rw [if_pos hp]; exact h e (by simp)
    · rw [if_neg hp]; exact ih fun x hx => h x (by simp [hx])
theorem kOk_put {t : Kn} (h : kOk t) (p : Plc) (v : Int) (hv : 0 ≤ v ∧ v ≤ farV) : kOk (kput t p v) := by
  induction t with
  | nil => intro e he; simp only [kput, List.mem_singleton] at he; subst he; exact hv
  | cons e t ih =>
    intro x hx
    rw [kput] at hx
    split at hx
    · rcases List.mem_cons.1 hx with rfl | hx
      · exact hv
      · exact h x (by simp [hx])
    · rcases List.mem_cons.1 hx with rfl | hx
      · exact h _ (by simp)
      · exact ih (fun x hx => h x (by simp [hx])) x hx
def endsV (f : Fmt) (won games : Pr) (k : Int) : Bool := brksV (setV f won) games || decide (0 ≤ leadsV (addV games k) f.games 2)
/-- What is behind one more game. -/
def restV (rec : Pr → Pr → Int → Kn → Int × Kn) (f : Fmt) (won games : Pr) (more k : Int) (kn : Kn) : Int × Kn :=
  bif endsV f won games k then rec (addV won k) (0, 0) (mostV f) kn else rec won (addV games k) (more - 1) kn
def subV (rec : Pr → Pr → Int → Kn → Int × Kn) (f : Fmt) (won games pts : Pr) (more k : Int) (z : Int × Kn) : Int × Kn :=
  match restV rec f won games more k z.2 with
  | (v, kn) => (min z.1 (takesV f (setV f won) (brksV (setV f won) games) pts k + v), kn)
def keepV (won games pts : Pr) (z : Int × Kn) : Int × Kn := match z with
  | (v, kn) => (v, bif isZ pts then kput kn (won, games) v else kn)
def subTo (rec : Pr → Pr → Int → Kn → Int × Kn) (f : Fmt) (won games pts : Pr) (more : Int) (kn : Kn) : Nat → Int × Kn
  | 0 => (farV, kn)
  | k + 1 => subV rec f won games pts more k (subTo rec f won games pts more kn k)
def leastF (f : Fmt) (side : Int) : Nat → Pr → Pr → Pr → Int → Kn → Int × Kn
  | 0, _, _, _, _, kn => (0, kn)
  | n + 1, won, games, pts, more, kn =>
    bif overV f won && decide (leadsV won f.sets 1 = side) then (0, kn) else bif overV f won then (farV, kn) else bif decide (more = 0) then (farV, kn)
    else bif (kget kn (won, games)).isSome && isZ pts then ((kget kn (won, games)).getD 0, kn)
    else keepV won games pts (subTo (fun w g m kn => leastF f side n w g (0, 0) m kn) f won games pts more kn 2)
theorem takesN_nn (f : Fmt) (s : Pr) (tie : Bool) (side : Int) : ∀ (k : Nat) (p : Pr), 0 ≤ takesN f s tie side k p ∧ takesN f s tie side k p ≤ k
  | 0, p => by simp [takesN]
  | k + 1, p => by
    have := takesN_nn f s tie side k (addV p side)
    rw [takesN]
    cases decide (gameV f s tie p = side) <;> simp only [Bool.not_true, Bool.not_false, cond_true, cond_false] <;> omega
theorem takesV_nn (f : Fmt) (s : Pr) (tie : Bool) (p : Pr) (side : Int) : 0 ≤ takesV f s tie p side := (takesN_nn ..).1
theorem takesV_le {f : Fmt} {s : Pr} {tie : Bool} {p : Pr} {side : Int} (hp : (0 ≤ p.1 ∧ p.1 ≤ 1000) ∧ 0 ≤ p.2 ∧ p.2 ≤ 1000) : takesV f s tie p side ≤ 2000 := by
  have := (takesN_nn f s tie side (gap p side).toNat p).2
  have hg : gap p side ≤ 2000 := by unfold gap; cases decide (side = 0) <;> simp only [cond_true, cond_false] <;> omega
  unfold takesV; omega
/-- The results of the recursion are in range, if those behind are. -/
def RecOk (rec : Pr → Pr → Int → Kn → Int × Kn) : Prop := ∀ w g m kn, kOk kn → (0 ≤ (rec w g m kn).1 ∧ (rec w g m kn).1 ≤ farV) ∧ kOk (rec w g m kn).2
theorem subV_ok {rec : Pr → Pr → Int → Kn → Int × Kn} (hr : RecOk rec) (f : Fmt) (won games pts : Pr) (more k : Int) {z : Int × Kn} (hz : (0 ≤ z.1 ∧ z.1 ≤ farV) ∧ kOk z.2) : (0 ≤ (subV rec f won games pts more k z).1 ∧ (subV rec f won games pts more k z).1 ≤ farV) ∧ kOk (subV rec f won games pts more k z).2 := by
  have h1 : (0 ≤ (restV rec f won games more k z.2).1 ∧ (restV rec f won games more k z.2).1 ≤ farV) ∧ kOk (restV rec f won games more k z.2).2 := by
    unfold restV
    cases endsV f won games k
    · exact hr _ _ _ _ hz.2
    · exact hr _ _ _ _ hz.2
  have ht := takesV_nn f (setV f won) (brksV (setV f won) games) pts k
  unfold subV
  rcases hq : restV rec f won games more k z.2 with ⟨v, kn⟩
  rw [hq] at h1
  dsimp only at h1 ⊢
  exact ⟨by omega, h1.2⟩
theorem subTo_ok {rec : Pr → Pr → Int → Kn → Int × Kn} (hr : RecOk rec) (f : Fmt) (won games pts : Pr) (more : Int) {kn : Kn} (hk : kOk kn) : ∀ k, (0 ≤ (subTo rec f won games pts more kn k).1 ∧ (subTo rec f won games pts more kn k).1 ≤ farV) ∧ kOk (subTo rec f won games pts more kn k).2
  | 0 => ⟨by simp [subTo, farV], hk⟩
  | k + 1 => subV_ok hr f won games pts more k (subTo_ok hr f won games pts more hk k)
theorem leastF_ok (f : Fmt) (side : Int) : ∀ (n : Nat) (won games pts : Pr) (more : Int) (kn : Kn), kOk kn → (0 ≤ (leastF f side n won games pts more kn).1 ∧ (leastF f side n won games pts more kn).1 ≤ farV) ∧ kOk (leastF f side n won games pts more kn).2
  | 0, won, games, pts, more, kn, hk => ⟨by simp [leastF, farV], hk⟩
  | n + 1, won, games, pts, more, kn, hk => by
    have hf : 0 ≤ farV := by simp [farV]
    have hs := subTo_ok (rec := fun w g m kn => leastF f side n w g (0, 0) m kn) (fun w g m kn hk => leastF_ok f side n w g (0, 0) m kn hk) f won games pts more hk 2
    rw [leastF]
    cases overV f won && decide (leadsV won f.sets 1 = side)
    · cases overV f won
      · cases decide (more = 0)
        · cases (kget kn (won, games)).isSome && isZ pts
          · simp only [cond_false]
            unfold keepV
            rcases hq : subTo (fun w g m kn => leastF f side n w g (0, 0) m kn) f won games pts more kn 2 with ⟨v, kn'⟩
            rw [hq] at hs
            dsimp only at hs ⊢
            refine ⟨hs.1, ?_⟩
            cases isZ pts
            · exact hs.2
            · exact kOk_put hs.2 _ _ hs.1
          · exact ⟨kOk_get hk _, hk⟩
        · exact ⟨⟨hf, Int.le_refl _⟩, hk⟩
      · exact ⟨⟨hf, Int.le_refl _⟩, hk⟩
    · exact ⟨⟨Int.le_refl _, hf⟩, hk⟩
/-- How far the recursion is from its end. -/
def meas (f : Fmt) (won : Pr) (more : Int) : Int := (2 * f.sets - won.1 - won.2) * 25 + more
structure BZ where
  (k : Nat) (es : Array MapEntry) (c : Nat)
end Go.Proofs.Ytacaojifempclaa
