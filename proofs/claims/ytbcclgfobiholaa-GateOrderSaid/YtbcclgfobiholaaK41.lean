/- The law of the seats that are enough. -/
import Derived.Test.YtbcclgfobiholaaGZ
import Derived.Test.YtbcclgfobiholaaK39
namespace Go.Proofs.Ytbcclgfobiholaa
open Go Go.RowKit

theorem C_ref11_Copy (q : Qu) (a : QA) (hn : q.gs.length ≤ 100 ∧ q.fs.length ≤ 100) (w : World) (h : QRd w q a) : CR Try.prog 14 [q.val a] w (fun _ : QA => True) (fun b => q.val b) (fun b => [.own b.gA b.gc 52 4 q.gs.length (encPt q.gs), .own b.fA b.fc 50 2 q.fs.length (encF q.fs)]) := by
  obtain ⟨hg, hf, hgn, hfn⟩ := h
  refine ⟨en Try.func14 Try.ntmps14 (((St.init w).share (e := .ro a.gA 4 q.gs.length (encPt q.gs)) hg rfl rfl rfl).share (e := .ro a.fA 2 q.fs.length (encF q.fs)) hf rfl rfl rfl) (h := fun F => ?_)⟩
  refine sq (h := ?_)
  refine rg (h := ?_)
  refine bxA (h := fun b0 => ?_)
  refine al (h := fun b1 => ?_)
  refine nl (h := ?_)
  refine q_seq (h := ?_)
  refine sq (h := ?_)
  refine rg (h := ?_)
  refine WL.y (hy := (by first | exact ldA | exact ldEA)) (h := ?_)
  refine al (h := fun b2 => ?_)
  first | refine stA (h := ?_) | refine stEA (h := ?_)
  refine nl (h := ?_)
  refine q_seq (h := ?_)
  refine sq (h := ?_)
  refine rg (h := ?_)
  refine bs (h := fun b3 => ?_)
  refine WL.y (hy := (by first | exact fa | exact faE)) (h := ?_)
  refine WL.y (hy := (by first | exact ld | exact ldE)) (h := ?_)
  first | refine ap (h := fun A1 c1 => ?_) | refine ap0 (h := fun A1 c1 => ?_)
  refine WL.y (hy := (by first | exact fa | exact faE)) (h := ?_)
  first | refine st (h := ?_) | refine stE (h := ?_)
  simp only [Nat.zero_add, List.nil_append]
  refine nl (h := ?_)
  refine q_seq (h := ?_)
  refine sq (h := ?_)
  refine rg (h := ?_)
  refine bs (h := fun b4 => ?_)
  refine WL.y (hy := (by first | exact fa | exact faE)) (h := ?_)
  refine WL.y (hy := (by first | exact ld | exact ldE)) (h := ?_)
  first | refine ap (h := fun A2 c2 => ?_) | refine ap0 (h := fun A2 c2 => ?_)
  refine WL.y (hy := (by first | exact fa | exact faE)) (h := ?_)
  first | refine st (h := ?_) | refine stE (h := ?_)
  simp only [Nat.zero_add, List.nil_append]
  refine nl (h := ?_)
  refine q_seq (h := ?_)
  refine sq (h := ?_)
  refine rg (h := ?_)
  refine WL.y (hy := (by first | exact ldA | exact ldEA)) (h := ?_)
  first | refine stA (h := ?_) | refine stEA (h := ?_)
  refine nl (h := ?_)
  refine q_seq (h := ?_)
  refine rtn (h := ?_)
  refine q_ret (hR := ?_)
  exact fun w hS => ⟨⟨A1, A2, c1, c2⟩, trivial, rfl, hS.sub (by repeat (first | exact SubL.nil | (apply SubL.cons; (repeat (first | exact At.here | apply At.there))) | exact SubL.refl _ | apply SubL.skip))⟩
theorem C_law11_last (q : Qu) (a : QA) (hq : q.Ok) (w : World) (h : QRd w q a) : C0 Try.prog 28 [q.val a] w (.int .i64 (lastV q)) := by
  obtain ⟨hg, hf, hgn, hfn⟩ := h
  refine ⟨en Try.func28 Try.ntmps28 (((St.init w).share (e := .ro a.gA 4 q.gs.length (encPt q.gs)) hg rfl rfl rfl).share (e := .ro a.fA 2 q.fs.length (encF q.fs)) hf rfl rfl rfl) (h := fun F => ?_)⟩
  refine sq (h := ?_)
  refine rg (h := ?_)
  refine bxA (h := fun b0 => ?_)
  refine WL.y (hy := asg) (h := ?_)
  refine nl (h := ?_)
  refine q_seq (h := ?_)
  refine sq (h := ?_)
  refine rg (h := ?_)
  refine WL.y (hy := (by first | exact fa | exact faE)) (h := ?_)
  refine WL.y (hy := (by first | exact ld | exact ldE)) (h := ?_)
  refine WL.y (hy := asg) (h := ?_)
  refine nl (h := ?_)
  refine q_seq (h := ?_)
  refine sq (h := ?_)
  refine sq (h := ?_)
  refine rg (h := ?_)
  refine WL.y (hy := asg) (h := ?_)
  refine nl (h := ?_)
  refine q_seq (h := ?_)
  refine bk (h := ?_)
  refine lp (X := IZ) (I := fun z => z.k ≤ q.gs.length) (le := fun z => [(1, .pointer (some ⟨b0, 0, none⟩)), (3, .int .i64 (lastTo q z.k)), (4, .int .i64 z.k)]) (Le := fun _ => quL q a b0) (μ := fun z => q.gs.length - z.k) ⟨0⟩ (Nat.zero_le _) (by repeat (first | exact trivial | refine ⟨rfl, ?_⟩)) (by repeat (first | exact SubL.nil | (apply SubL.cons; (repeat (first | exact At.here | apply At.there))) | exact SubL.refl _ | apply SubL.skip)) (fun z hz => ?_)
  refine sq (h := ?_)
  refine sq (h := ?_)
  refine rg (h := ?_)
  refine WL.y (hy := mv) (h := ?_)
  refine WL.y (hy := (by first | exact fa | exact faE)) (h := ?_)
  refine WL.y (hy := (by first | exact ld | exact ldE)) (h := ?_)
  refine WL.y (hy := lenS) (h := ?_)
  refine WL.y (hy := lss) (h := ?_)
  refine nl (h := ?_)
  refine q_seq (h := ?_)
  refine cd (by exact rfl) (fun h0 => ?_) (fun h0 => ?_)
  · skip
    have hkn : z.k < q.gs.length := by simp only [decide_eq_true_eq] at h0; omega
    obtain ⟨g, hg1⟩ : ∃ g, q.gs[z.k]? = some g := ⟨_, List.getElem?_eq_getElem hkn⟩
    have hge := encPt_at hg1
    have hst := lastTo_succ hg1
    refine skp (h := ?_)
    refine q_seq (h := ?_)
    refine sq (h := ?_)
    refine bk (h := ?_)
    refine rg (h := ?_)
    refine WL.y (hy := mv) (h := ?_)
    refine WL.y (hy := (by first | exact fa | exact faE)) (h := ?_)
    refine WL.y (hy := (by first | exact ld | exact ldE)) (h := ?_)
    refine WL.y (hy := mv) (h := ?_)
    refine WL.y (hy := ix (A := a.gA)) (h := ?_)
    refine WL.y (hy := (by first | exact fa | exact faE)) (h := ?_)
    refine WL.y (hy := ldE (A := a.gA) (hk := hge)) (h := ?_)
    refine WL.y (hy := maxI) (h := ?_)
    refine WL.y (hy := asg) (h := ?_)
    refine nl (h := ?_)
    refine q_blk_norm (h := ?_)
    refine q_seq (h := ?_)
    refine rg (h := ?_)
    refine WL.y (hy := mv) (h := ?_)
    refine WL.y (hy := addI) (h := ?_)
    refine WL.y (hy := asg) (h := ?_)
    refine nl (h := ?_)
    refine rn (x := z) ⟨z.k + 1⟩ (by dsimp only; omega) (by dsimp only; omega) (by dsimp only; rw [hst]; repeat (first | exact trivial | refine ⟨rfl, ?_⟩)) (by repeat (first | exact SubL.nil | (apply SubL.cons; (repeat (first | exact At.here | apply At.there))) | exact SubL.refl _ | apply SubL.skip))
  · skip
    have hkn : z.k = q.gs.length := by simp only [decide_eq_false_iff_not] at h0; omega
    rw [hkn]
    refine et (h := ?_)
    refine q_then_exit (h := ?_)
    refine q_then_exit (h := ?_)
    refine q_blk_hit (h := ?_)
    refine q_seq (h := ?_)
    refine sq (h := ?_)
    refine rg (h := ?_)
    refine WL.y (hy := mv) (h := ?_)
    refine WL.y (hy := asg) (h := ?_)
    refine nl (h := ?_)
    refine q_seq (h := ?_)
    refine rtn (h := ?_)
    refine q_ret (hR := ?_)
    exact fun w hS => ⟨rfl, hS.sub (by repeat (first | exact SubL.nil | (apply SubL.cons; (repeat (first | exact At.here | apply At.there))) | exact SubL.refl _ | apply SubL.skip))⟩
theorem sureTo_all {q : Qu} {i more : Int} : ∀ K, (∀ j, j < K → 0 ≤ inI q more j i) → (sureTo q i more K).isSome = true
  | 0, _ => rfl
  | K + 1, h => by
    have ih := sureTo_all (q := q) (i := i) (more := more) K (fun j hj => h j (by omega))
    obtain ⟨z, hz⟩ := Option.isSome_iff_exists.1 ih
    rw [sureTo, hz]; simp only
    rw [decide_eq_false (by have := h K (by omega); omega)]; rfl
/-- What the law of the seats that are enough says. -/
structure EnOk (q : Qu) (id : Int) (E : PE) : Prop where
  err : E.err = 0 ∨ E.err = 1 ∨ E.err = 3
  ok : E.err = 0 → (0 ≤ E.n ∧ E.n ≤ pplV q.gs ∧ q.seats + E.n ≤ 9999) ∧ (sureP (moreQ q E.n) id).err = 0 ∧ ∀ m, 0 ≤ m → m < E.n → (sureP (moreQ q m) id).err = 3
  in_ : ∀ (k : Nat) (g : Pt), q.gs[k]? = some g → g.id = id → g.quits = -1 → pplV q.gs ≤ 1440 - lastV q + 1 → E.err = 0 ∧ E.n ≤ max 0 (pplV q.gs - q.seats)
theorem more_grp (q : Qu) (n id : Int) (hb : qOk q = true) (hm : qOk (moreQ q n) = true) (hi : 0 ≤ grpI q.gs id) : sureP (moreQ q n) id = match sureV q (grpI q.gs id) n with
  | some s => ⟨s.1, s.2, 0⟩
  | none => ⟨0, 0, 3⟩ := by
  have hE : grpE (moreQ q n) id = 0 := by rw [grpE, hm, decide_eq_false (p := grpI (moreQ q n).gs id < 0) (by show ¬ (grpI q.gs id < 0); omega)]; rfl
  rw [sureP, hE, show grpI (moreQ q n).gs id = grpI q.gs id from rfl, more_sure]
  rfl
theorem enough_ok {q : Qu} {rate : Int} (hR : Rdy q rate) (id : Int) : EnOk q id (enouP q id) := by
  have hb := hR.b
  have hq := hR.o
  have hr := hq.r
  have hs := hq.s
  have hp24 := hR.p
  have hgr := grp_rng q.gs id
  have hpp := pplTo_rng hq q.gs.length (Nat.le_refl _)
  rw [show pplTo q.gs q.gs.length = pplV q.gs from rfl] at hpp
  by_cases h0 : grpI q.gs id < 0
  · have hE : grpE q id = 1 := by rw [grpE, hb, decide_eq_true h0]; rfl
    have hP : enouP q id = ⟨0, 1⟩ := by rw [enouP, hE]; rfl
    rw [hP]
    refine ⟨.inr (.inl rfl), fun h => (by cases h), fun k g hk he _ _ => ?_⟩
    have := grp_uniq hq hk id
    rw [decide_eq_true he] at this
    have := of_decide_eq_true this.symm
    omega
  · have hi : 0 ≤ grpI q.gs id ∧ grpI q.gs id < q.gs.length := by omega
    have hE : grpE q id = 0 := by rw [grpE, hb, decide_eq_false h0]; rfl
    have hn : enouP q id = bif decide (enouI q (grpI q.gs id) < 0) then ⟨0, 3⟩ else ⟨enouI q (grpI q.gs id), 0⟩ := by rw [enouP, hE]; rfl
    have hspec := idxF_spec (fun m => (sureV q (grpI q.gs id) (m : Int)).isSome) (pplV q.gs).toNat.succ
    have hin : ∀ (k : Nat) (g : Pt), q.gs[k]? = some g → g.id = id → g.quits = -1 → pplV q.gs ≤ 1440 - lastV q + 1 → (sureV q (grpI q.gs id) (max 0 (pplV q.gs - q.seats))).isSome = true := by
      intro k g hk he hqt ht
      have hu := grp_uniq hq hk id
      rw [decide_eq_true he] at hu
      have hu := of_decide_eq_true hu.symm
      refine sureTo_all _ fun j hj => ?_
      refine all_in hq (rate := q.lo + j) (by omega) (by omega) (by omega) ht hi ?_
      rw [hu, quit_eq (g := g) (by rw [Int.toNat_natCast]; exact hk)]; exact hqt
    rcases hspec with ⟨k, hk, he, hp, hbf⟩ | ⟨he, hbf⟩
    · have he' : enouI q (grpI q.gs id) = k := he
      have hP : enouP q id = ⟨k, 0⟩ := by rw [hn, he', decide_eq_false (by omega)]; rfl
      rw [hP]
      have hse : q.seats + k ≤ 9999 := by
        by_cases hc : pplV q.gs ≤ q.seats
        · by_cases hk0 : k = 0
          · subst hk0; omega
          · exfalso
            have h1 := hbf 0 (by omega)
            have h2 := sure_up hq (i := grpI q.gs id) (more := 0) (d := k) (by omega) (by omega) (by omega)
            rw [Int.zero_add] at h2
            simp only at hp h1
            rw [h2] at hp
            rw [show (((0 : Nat) : Int)) = 0 from rfl] at h1
            rw [h1] at hp; cases hp
        · omega
      refine ⟨.inl rfl, fun _ => ⟨⟨by show 0 ≤ (k : Int); omega, by show (k : Int) ≤ _; omega, hse⟩, ?_, fun m hm0 hm => ?_⟩, fun k' g hk' hid hqt ht => ⟨rfl, ?_⟩⟩
      · show (sureP (moreQ q k) id).err = 0
        obtain ⟨z, hz⟩ := Option.isSome_iff_exists.1 hp
        rw [more_grp q k id hb (more_ok hb (by omega)) hi.1, hz]
      · have hm' : m < (k : Int) := hm
        have h1 := hbf m.toNat (by omega)
        simp only at h1
        rw [Int.toNat_of_nonneg hm0] at h1
        have h2 : sureV q (grpI q.gs id) m = none := by
          cases hz : sureV q (grpI q.gs id) m with
          | none => rfl
          | some z => rw [hz] at h1; cases h1
        rw [more_grp q m id hb (more_ok hb (by omega)) hi.1, h2]
      · have h1 := hin k' g hk' hid hqt ht
        show (k : Int) ≤ _
        by_cases hc : (k : Int) ≤ max 0 (pplV q.gs - q.seats)
        · exact hc
        · exfalso
          have h2 := hbf (max 0 (pplV q.gs - q.seats)).toNat (by omega)
          simp only at h2
          rw [Int.toNat_of_nonneg (by omega), h1] at h2
          cases h2
    · have he' : enouI q (grpI q.gs id) = -1 := he
      have hP : enouP q id = ⟨0, 3⟩ := by rw [hn, he']; rfl
      rw [hP]
      refine ⟨.inr (.inr rfl), fun h => (by cases h), fun k g hk hid hqt ht => ?_⟩
      exfalso
      have h1 := hin k g hk hid hqt ht
      have h2 := hbf (max 0 (pplV q.gs - q.seats)).toNat (by omega)
      simp only at h2
      rw [Int.toNat_of_nonneg (by omega), h1] at h2
      cases h2
set_option maxRecDepth 100000 in
set_option maxHeartbeats 4000000 in
theorem K_GateEnough (q : Qu) (a : QA) (id fewer : Int) (w : World) (h : QRd w q a) : C0 Try.prog 7 [q.val a, .int .i64 id, .int .i64 fewer] w (.bool true) := by
  obtain ⟨hg, hf, hgn, hfn⟩ := h
  refine ⟨en Try.func7 Try.ntmps7 (((St.init w).share (e := .ro a.gA 4 q.gs.length (encPt q.gs)) hg rfl rfl rfl).share (e := .ro a.fA 2 q.fs.length (encF q.fs)) hf rfl rfl rfl) (h := fun F => ?_)⟩
  refine sq (h := ?_)
  refine rg (h := ?_)
  refine bxA (h := fun b0 => ?_)
  refine WL.y (hy := asg) (h := ?_)
  refine nl (h := ?_)
  refine q_seq (h := ?_)
  refine sq (h := ?_)
  refine sq (h := ?_)
  refine rg (h := ?_)
  refine WL.y (hy := (by first | exact ldA | exact ldEA)) (h := ?_)
  refine WL.y (hy := (by first | exact fa | exact faE)) (h := ?_)
  refine WL.y (hy := (by first | exact fa | exact faE)) (h := ?_)
  refine WL.y (hy := (by first | exact ld | exact ldE)) (h := ?_)
  refine cl0 (hc := fun w hS => C_law11_ready q a q.lo w ⟨hS.get, hS.get, hgn, hfn⟩) (h := ?_)
  refine WL.y (hy := notB) (h := ?_)
  refine nl (h := ?_)
  refine q_seq (h := ?_)
  refine cd (by exact rfl) (fun h0 => ?_) (fun h0 => ?_)
  · skip
    refine sq (h := ?_)
    refine rg (h := ?_)
    refine cl0 (hc := fun w hS => C_law11_works w) (h := ?_)
    refine WL.y (hy := asg) (h := ?_)
    refine nl (h := ?_)
    refine q_seq (h := ?_)
    refine rtn (h := ?_)
    refine q_then_ret (h := ?_)
    refine q_ret (hR := ?_)
    first
      | exact fun w hS => ⟨rfl, hS.sub (by repeat (first | exact SubL.nil | (apply SubL.cons; (repeat (first | exact At.here | apply At.there))) | exact SubL.refl _ | apply SubL.skip))⟩
      | (refine fun w hS => ⟨congrArg (fun b => Ending.returned (Value.bool b)) ?_, hS.sub (by repeat (first | exact SubL.nil | (apply SubL.cons; (repeat (first | exact At.here | apply At.there))) | exact SubL.refl _ | apply SubL.skip))⟩; simp only [Bool.and_true, Bool.or_eq_true, decide_eq_true_eq]; omega)
  · skip
    have hR := rdy_ok (by simpa using h0)
    have hq := hR.o
    have hqr := hq.r
    have hqs := hq.s
    have hgl := hq.g
    have hfl := hq.f
    have hn6 := hR.n
    have hp24 := hR.p
    have hpp := pplTo_rng hq q.gs.length (Nat.le_refl _)
    rw [show pplTo q.gs q.gs.length = pplV q.gs from rfl] at hpp
    have hlr := lastTo_rng hq q.gs.length (Nat.le_refl _)
    rw [show lastTo q q.gs.length = lastV q from rfl] at hlr
    have hEn := enough_ok hR id
    generalize hE : enouP q id = E
    rw [hE] at hEn
    have hEe := hEn.err
    refine skp (h := ?_)
    refine q_seq (h := ?_)
    refine sq (h := ?_)
    refine rg (h := ?_)
    refine WL.y (hy := (by first | exact ldA | exact ldEA)) (h := ?_)
    refine WL.y (hy := mv) (h := ?_)
    refine cl0 (hc := fun w hS => C_gate_Enough q a id (fun _ => by omega) w ⟨hS.get, hS.get, hgn, hfn⟩) (h := ?_)
    rw [hE]
    refine WL.y (hy := mv) (h := ?_)
    refine WL.y (hy := ex) (h := ?_)
    refine WL.y (hy := ex) (h := ?_)
    refine WL.y (hy := asg) (h := ?_)
    refine WL.y (hy := asg) (h := ?_)
    refine nl (h := ?_)
    refine q_seq (h := ?_)
    refine sq (h := ?_)
    refine rg (h := ?_)
    refine WL.y (hy := (by first | exact ldA | exact ldEA)) (h := ?_)
    refine cl0 (hc := fun w hS => C_ref11_People q a hq w ⟨hS.get, hS.get, hgn, hfn⟩) (h := ?_)
    refine WL.y (hy := asg) (h := ?_)
    refine nl (h := ?_)
    refine q_seq (h := ?_)
    refine sq (h := ?_)
    refine sq (h := ?_)
    refine rg (h := ?_)
    refine WL.y (hy := asg) (h := ?_)
    refine nl (h := ?_)
    refine q_seq (h := ?_)
    refine bk (h := ?_)
    refine lp (X := IZ) (I := fun z => z.k ≤ q.gs.length) (le := fun z => [(3, .pointer (some ⟨b0, 0, none⟩)), (1, .int .i64 id), (2, .int .i64 fewer), (7, .int .i64 E.n), (8, .int .i64 E.err), (9, .int .i64 (pplV q.gs)), (10, .int .i64 z.k)]) (Le := fun _ => quL q a b0) (μ := fun z => q.gs.length - z.k) ⟨0⟩ (Nat.zero_le _) (by repeat (first | exact trivial | refine ⟨rfl, ?_⟩)) (by repeat (first | exact SubL.nil | (apply SubL.cons; (repeat (first | exact At.here | apply At.there))) | exact SubL.refl _ | apply SubL.skip)) (fun z hz => ?_)
    refine sq (h := ?_)
    refine sq (h := ?_)
    refine rg (h := ?_)
    refine WL.y (hy := mv) (h := ?_)
    refine WL.y (hy := (by first | exact fa | exact faE)) (h := ?_)
    refine WL.y (hy := (by first | exact ld | exact ldE)) (h := ?_)
    refine WL.y (hy := lenS) (h := ?_)
    refine WL.y (hy := lss) (h := ?_)
    refine nl (h := ?_)
    refine q_seq (h := ?_)
    refine cd (by exact rfl) (fun h1 => ?_) (fun h1 => ?_)
    · skip
      have hkn : z.k < q.gs.length := by simp only [decide_eq_true_eq] at h1; omega
      obtain ⟨g, hg1⟩ : ∃ g, q.gs[z.k]? = some g := ⟨_, List.getElem?_eq_getElem hkn⟩
      have hge := encPt_at hg1
      have hin := hEn.in_ z.k g hg1
      refine skp (h := ?_)
      refine q_seq (h := ?_)
      refine sq (h := ?_)
      refine bk (h := ?_)
      refine sq (h := ?_)
      refine rg (h := ?_)
      refine WL.y (hy := (by first | exact fa | exact faE)) (h := ?_)
      refine WL.y (hy := (by first | exact ld | exact ldE)) (h := ?_)
      refine WL.y (hy := mv) (h := ?_)
      refine WL.y (hy := ix (A := a.gA)) (h := ?_)
      refine WL.y (hy := (by first | exact fa | exact faE)) (h := ?_)
      refine WL.y (hy := ldE (A := a.gA) (hk := hge)) (h := ?_)
      refine WL.y (hy := mv) (h := ?_)
      refine WL.y (hy := eql) (h := ?_)
      refine WL.y (hy := mv) (h := ?_)
      apply brAnd 8 46 54 (by exact rfl)
      · intro hb2
        refine un (h := ?_)
        refine WL.y (hy := (by first | exact fa | exact faE)) (h := ?_)
        refine un (h := ?_)
        refine WL.y (hy := (by first | exact ld | exact ldE)) (h := ?_)
        refine un (h := ?_)
        refine WL.y (hy := mv) (h := ?_)
        refine un (h := ?_)
        refine WL.y (hy := ix (A := a.gA)) (h := ?_)
        refine un (h := ?_)
        refine WL.y (hy := (by first | exact fa | exact faE)) (h := ?_)
        refine un (h := ?_)
        refine WL.y (hy := ldE (A := a.gA) (hk := hge)) (h := ?_)
        refine un (h := ?_)
        refine WL.y (hy := eql) (h := ?_)
        refine WL.y (hy := (by first | exact pkT | exact pkF)) (h := ?_)
        exact mg (by repeat (first | exact trivial | refine ⟨rfl, ?_⟩ | refine ⟨by rw [hb2]; rfl, ?_⟩)) (by repeat (first | exact SubL.nil | (apply SubL.cons; (repeat (first | exact At.here | apply At.there))) | exact SubL.refl _ | apply SubL.skip))
      · intro hb2
        repeat (first | refine un (h := ?_) | refine sk (h := ?_) | refine WL.y (hy := pkF) (h := ?_) | refine WL.y (hy := pkT) (h := ?_))
        exact mg (by repeat (first | exact trivial | refine ⟨rfl, ?_⟩ | refine ⟨by rw [hb2]; rfl, ?_⟩)) (by repeat (first | exact SubL.nil | (apply SubL.cons; (repeat (first | exact At.here | apply At.there))) | exact SubL.refl _ | apply SubL.skip))
      refine WL.y (hy := mv) (h := ?_)
      apply brAnd 7 55 62 (by exact rfl)
      · intro hb3
        refine un (h := ?_)
        refine WL.y (hy := (by first | exact ldA | exact ldEA)) (h := ?_)
        refine un (h := ?_)
        refine cl0 (hc := fun w hS => C_law11_last q a hq w ⟨hS.get, hS.get, hgn, hfn⟩) (h := ?_)
        refine un (h := ?_)
        refine WL.y (hy := subI) (h := ?_)
        refine un (h := ?_)
        refine WL.y (hy := addI) (h := ?_)
        refine un (h := ?_)
        refine WL.y (hy := mv) (h := ?_)
        refine un (h := ?_)
        refine WL.y (hy := geq) (h := ?_)
        refine WL.y (hy := (by first | exact pkT | exact pkF)) (h := ?_)
        exact mg (by repeat (first | exact trivial | refine ⟨rfl, ?_⟩ | refine ⟨by rw [hb3]; rfl, ?_⟩)) (by repeat (first | exact SubL.nil | (apply SubL.cons; (repeat (first | exact At.here | apply At.there))) | exact SubL.refl _ | apply SubL.skip))
      · intro hb3
        repeat (first | refine un (h := ?_) | refine sk (h := ?_) | refine WL.y (hy := pkF) (h := ?_) | refine WL.y (hy := pkT) (h := ?_))
        exact mg (by repeat (first | exact trivial | refine ⟨rfl, ?_⟩ | refine ⟨by rw [hb3]; rfl, ?_⟩)) (by repeat (first | exact SubL.nil | (apply SubL.cons; (repeat (first | exact At.here | apply At.there))) | exact SubL.refl _ | apply SubL.skip))
      refine WL.y (hy := mv) (h := ?_)
      apply brAnd 6 63 69 (by exact rfl)
      · intro hb4
        refine un (h := ?_)
        refine WL.y (hy := (by first | exact fa | exact faE)) (h := ?_)
        refine un (h := ?_)
        refine WL.y (hy := (by first | exact ld | exact ldE)) (h := ?_)
        refine un (h := ?_)
        refine WL.y (hy := mv) (h := ?_)
        refine un (h := ?_)
        refine WL.y (hy := maxI) (h := ?_)
        refine un (h := ?_)
        refine WL.y (hy := leq) (h := ?_)
        refine WL.y (hy := (by first | exact pkT | exact pkF)) (h := ?_)
        exact mg (by repeat (first | exact trivial | refine ⟨rfl, ?_⟩ | refine ⟨by rw [hb4]; rfl, ?_⟩)) (by repeat (first | exact SubL.nil | (apply SubL.cons; (repeat (first | exact At.here | apply At.there))) | exact SubL.refl _ | apply SubL.skip))
      · intro hb4
        repeat (first | refine un (h := ?_) | refine sk (h := ?_) | refine WL.y (hy := pkF) (h := ?_) | refine WL.y (hy := pkT) (h := ?_))
        exact mg (by repeat (first | exact trivial | refine ⟨rfl, ?_⟩ | refine ⟨by rw [hb4]; rfl, ?_⟩)) (by repeat (first | exact SubL.nil | (apply SubL.cons; (repeat (first | exact At.here | apply At.there))) | exact SubL.refl _ | apply SubL.skip))
      refine WL.y (hy := mv) (h := ?_)
      apply brAnd 12 70 82 (by exact rfl)
      · intro hb5
        refine un (h := ?_)
        refine WL.y (hy := mv) (h := ?_)
        refine un (h := ?_)
        refine WL.y (hy := neq) (h := ?_)
        refine un (h := ?_)
        refine WL.y (hy := mv) (h := ?_)
        apply brOr 8 73 81 (by exact rfl)
        · intro hb6
          refine un (h := ?_)
          refine WL.y (hy := mv) (h := ?_)
          refine un (h := ?_)
          refine WL.y (hy := mv) (h := ?_)
          refine un (h := ?_)
          refine WL.y (hy := (by first | exact fa | exact faE)) (h := ?_)
          refine un (h := ?_)
          refine WL.y (hy := (by first | exact ld | exact ldE)) (h := ?_)
          refine un (h := ?_)
          refine WL.y (hy := subI) (h := ?_)
          refine un (h := ?_)
          refine WL.y (hy := maxI) (h := ?_)
          refine un (h := ?_)
          refine WL.y (hy := gtr) (h := ?_)
          refine un (h := ?_)
          refine WL.y (hy := (by first | exact pkT | exact pkF)) (h := ?_)
          exact mg (by repeat (first | exact trivial | refine ⟨rfl, ?_⟩ | refine ⟨by rw [hb6]; rfl, ?_⟩ | refine ⟨by rw [hb5]; rfl, ?_⟩)) (by repeat (first | exact SubL.nil | (apply SubL.cons; (repeat (first | exact At.here | apply At.there))) | exact SubL.refl _ | apply SubL.skip))
        · intro hb6
          repeat (first | refine un (h := ?_) | refine sk (h := ?_) | refine WL.y (hy := pkF) (h := ?_) | refine WL.y (hy := pkT) (h := ?_))
          exact mg (by repeat (first | exact trivial | refine ⟨rfl, ?_⟩ | refine ⟨by rw [hb6]; rfl, ?_⟩ | refine ⟨by rw [hb5]; rfl, ?_⟩)) (by repeat (first | exact SubL.nil | (apply SubL.cons; (repeat (first | exact At.here | apply At.there))) | exact SubL.refl _ | apply SubL.skip))
        refine WL.y (hy := (by first | exact pkT | exact pkF)) (h := ?_)
        exact mg (by repeat (first | exact trivial | refine ⟨rfl, ?_⟩ | refine ⟨by rw [hb5]; rfl, ?_⟩)) (by repeat (first | exact SubL.nil | (apply SubL.cons; (repeat (first | exact At.here | apply At.there))) | exact SubL.refl _ | apply SubL.skip))
      · intro hb5
        repeat (first | refine un (h := ?_) | refine sk (h := ?_) | refine WL.y (hy := pkF) (h := ?_) | refine WL.y (hy := pkT) (h := ?_))
        exact mg (by repeat (first | exact trivial | refine ⟨rfl, ?_⟩ | refine ⟨by rw [hb5]; rfl, ?_⟩)) (by repeat (first | exact SubL.nil | (apply SubL.cons; (repeat (first | exact At.here | apply At.there))) | exact SubL.refl _ | apply SubL.skip))
      refine nl (h := ?_)
      refine q_seq (h := ?_)
      refine cd (by exact rfl) (fun h7 => ?_) (fun h7 => ?_)
      · skip
        exfalso
        simp only [Bool.and_eq_true, Bool.or_eq_true, Bool.not_eq_true', decide_eq_true_eq, decide_eq_false_iff_not] at h7
        obtain ⟨⟨⟨⟨h1, h2⟩, h3⟩, h4⟩, h5⟩ := h7
        have h6 := hin h1 h2 h3
        omega
      · skip
        refine skp (h := ?_)
        refine q_blk_norm (h := ?_)
        refine q_seq (h := ?_)
        refine rg (h := ?_)
        refine WL.y (hy := mv) (h := ?_)
        refine WL.y (hy := addI) (h := ?_)
        refine WL.y (hy := asg) (h := ?_)
        refine nl (h := ?_)
        refine rn (x := z) ⟨z.k + 1⟩ (by dsimp only; omega) (by dsimp only; omega) (by repeat (first | exact trivial | refine ⟨rfl, ?_⟩)) (by repeat (first | exact SubL.nil | (apply SubL.cons; (repeat (first | exact At.here | apply At.there))) | exact SubL.refl _ | apply SubL.skip))
    · skip
      have hkn : z.k = q.gs.length := by simp only [decide_eq_false_iff_not] at h1; omega
      refine et (h := ?_)
      refine q_then_exit (h := ?_)
      refine q_then_exit (h := ?_)
      refine q_blk_hit (h := ?_)
      refine q_seq (h := ?_)
      refine sq (h := ?_)
      refine sq (h := ?_)
      refine rg (h := ?_)
      refine WL.y (hy := mv) (h := ?_)
      refine WL.y (hy := neq) (h := ?_)
      refine nl (h := ?_)
      refine q_seq (h := ?_)
      refine cd (by exact rfl) (fun h8 => ?_) (fun h8 => ?_)
      · skip
        have hne : E.err ≠ 0 := by simpa using h8
        refine sq (h := ?_)
        refine rg (h := ?_)
        refine WL.y (hy := mv) (h := ?_)
        refine WL.y (hy := eql) (h := ?_)
        refine WL.y (hy := mv) (h := ?_)
        apply brOr 3 87 90 (by exact rfl)
        · intro hb9
          refine un (h := ?_)
          refine WL.y (hy := mv) (h := ?_)
          refine un (h := ?_)
          refine WL.y (hy := eql) (h := ?_)
          refine WL.y (hy := (by first | exact pkT | exact pkF)) (h := ?_)
          exact mg (by repeat (first | exact trivial | refine ⟨rfl, ?_⟩ | refine ⟨by rw [hb9]; rfl, ?_⟩)) (by repeat (first | exact SubL.nil | (apply SubL.cons; (repeat (first | exact At.here | apply At.there))) | exact SubL.refl _ | apply SubL.skip))
        · intro hb9
          repeat (first | refine un (h := ?_) | refine sk (h := ?_) | refine WL.y (hy := pkF) (h := ?_) | refine WL.y (hy := pkT) (h := ?_))
          exact mg (by repeat (first | exact trivial | refine ⟨rfl, ?_⟩ | refine ⟨by rw [hb9]; rfl, ?_⟩)) (by repeat (first | exact SubL.nil | (apply SubL.cons; (repeat (first | exact At.here | apply At.there))) | exact SubL.refl _ | apply SubL.skip))
        refine WL.y (hy := mv) (h := ?_)
        apply brAnd 2 91 93 (by exact rfl)
        · intro hb10
          refine un (h := ?_)
          refine cl0 (hc := fun w hS => C_law11_works w) (h := ?_)
          refine WL.y (hy := (by first | exact pkT | exact pkF)) (h := ?_)
          exact mg (by repeat (first | exact trivial | refine ⟨rfl, ?_⟩ | refine ⟨by rw [hb10]; rfl, ?_⟩)) (by repeat (first | exact SubL.nil | (apply SubL.cons; (repeat (first | exact At.here | apply At.there))) | exact SubL.refl _ | apply SubL.skip))
        · intro hb10
          repeat (first | refine un (h := ?_) | refine sk (h := ?_) | refine WL.y (hy := pkF) (h := ?_) | refine WL.y (hy := pkT) (h := ?_))
          exact mg (by repeat (first | exact trivial | refine ⟨rfl, ?_⟩ | refine ⟨by rw [hb10]; rfl, ?_⟩)) (by repeat (first | exact SubL.nil | (apply SubL.cons; (repeat (first | exact At.here | apply At.there))) | exact SubL.refl _ | apply SubL.skip))
        refine WL.y (hy := asg) (h := ?_)
        refine nl (h := ?_)
        refine q_seq (h := ?_)
        refine rtn (h := ?_)
        refine q_then_ret (h := ?_)
        refine q_ret (hR := ?_)
        first
          | exact fun w hS => ⟨rfl, hS.sub (by repeat (first | exact SubL.nil | (apply SubL.cons; (repeat (first | exact At.here | apply At.there))) | exact SubL.refl _ | apply SubL.skip))⟩
          | (refine fun w hS => ⟨congrArg (fun b => Ending.returned (Value.bool b)) ?_, hS.sub (by repeat (first | exact SubL.nil | (apply SubL.cons; (repeat (first | exact At.here | apply At.there))) | exact SubL.refl _ | apply SubL.skip))⟩; simp only [Bool.and_true, Bool.or_eq_true, decide_eq_true_eq]; omega)
      · skip
        have he0 : E.err = 0 := by simpa using h8
        obtain ⟨⟨hn0, hn1, hn2⟩, hs0, hs1⟩ := hEn.ok he0
        have hmo := more_ok hR.b (n := E.n) (by omega)
        refine skp (h := ?_)
        refine q_seq (h := ?_)
        refine sq (h := ?_)
        refine sq (h := ?_)
        refine rg (h := ?_)
        refine WL.y (hy := mv) (h := ?_)
        refine WL.y (hy := lss) (h := ?_)
        refine WL.y (hy := mv) (h := ?_)
        apply brOr 4 96 100 (by exact rfl)
        · intro hb11
          refine un (h := ?_)
          refine WL.y (hy := mv) (h := ?_)
          refine un (h := ?_)
          refine WL.y (hy := mv) (h := ?_)
          refine un (h := ?_)
          refine WL.y (hy := gtr) (h := ?_)
          refine WL.y (hy := (by first | exact pkT | exact pkF)) (h := ?_)
          exact mg (by repeat (first | exact trivial | refine ⟨rfl, ?_⟩ | refine ⟨by rw [hb11]; rfl, ?_⟩)) (by repeat (first | exact SubL.nil | (apply SubL.cons; (repeat (first | exact At.here | apply At.there))) | exact SubL.refl _ | apply SubL.skip))
        · intro hb11
          repeat (first | refine un (h := ?_) | refine sk (h := ?_) | refine WL.y (hy := pkF) (h := ?_) | refine WL.y (hy := pkT) (h := ?_))
          exact mg (by repeat (first | exact trivial | refine ⟨rfl, ?_⟩ | refine ⟨by rw [hb11]; rfl, ?_⟩)) (by repeat (first | exact SubL.nil | (apply SubL.cons; (repeat (first | exact At.here | apply At.there))) | exact SubL.refl _ | apply SubL.skip))
        refine WL.y (hy := mv) (h := ?_)
        apply brOr 6 101 107 (by exact rfl)
        · intro hb12
          refine un (h := ?_)
          refine WL.y (hy := (by first | exact fa | exact faE)) (h := ?_)
          refine un (h := ?_)
          refine WL.y (hy := (by first | exact ld | exact ldE)) (h := ?_)
          refine un (h := ?_)
          refine WL.y (hy := mv) (h := ?_)
          refine un (h := ?_)
          refine WL.y (hy := addI) (h := ?_)
          refine un (h := ?_)
          refine WL.y (hy := gtr) (h := ?_)
          refine WL.y (hy := (by first | exact pkT | exact pkF)) (h := ?_)
          exact mg (by repeat (first | exact trivial | refine ⟨rfl, ?_⟩ | refine ⟨by rw [hb12]; rfl, ?_⟩)) (by repeat (first | exact SubL.nil | (apply SubL.cons; (repeat (first | exact At.here | apply At.there))) | exact SubL.refl _ | apply SubL.skip))
        · intro hb12
          repeat (first | refine un (h := ?_) | refine sk (h := ?_) | refine WL.y (hy := pkF) (h := ?_) | refine WL.y (hy := pkT) (h := ?_))
          exact mg (by repeat (first | exact trivial | refine ⟨rfl, ?_⟩ | refine ⟨by rw [hb12]; rfl, ?_⟩)) (by repeat (first | exact SubL.nil | (apply SubL.cons; (repeat (first | exact At.here | apply At.there))) | exact SubL.refl _ | apply SubL.skip))
        refine nl (h := ?_)
        refine q_seq (h := ?_)
        refine cd (by exact rfl) (fun h13 => ?_) (fun h13 => ?_)
        · skip
          exfalso
          simp only [Bool.or_eq_true, decide_eq_true_eq] at h13
          omega
        · skip
          refine skp (h := ?_)
          refine q_seq (h := ?_)
          refine sq (h := ?_)
          refine rg (h := ?_)
          refine WL.y (hy := (by first | exact ldA | exact ldEA)) (h := ?_)
          refine cl (hc := fun w hS => C_ref11_Copy q a (by omega) w ⟨hS.get, hS.get, hgn, hfn⟩) (h := fun x0 _ => ?_)
          refine al (h := fun b1 => ?_)
          first | refine stA (h := ?_) | refine stEA (h := ?_)
          refine nl (h := ?_)
          refine q_seq (h := ?_)
          refine sq (h := ?_)
          refine rg (h := ?_)
          refine WL.y (hy := (by first | exact fa | exact faE)) (h := ?_)
          refine WL.y (hy := (by first | exact ld | exact ldE)) (h := ?_)
          refine WL.y (hy := mv) (h := ?_)
          refine WL.y (hy := addI) (h := ?_)
          refine WL.y (hy := (by first | exact fa | exact faE)) (h := ?_)
          first | refine st (h := ?_) | refine stE (h := ?_)
          refine nl (h := ?_)
          refine q_seq (h := ?_)
          refine sq (h := ?_)
          refine sq (h := ?_)
          refine rg (h := ?_)
          refine WL.y (hy := (by first | exact ldA | exact ldEA)) (h := ?_)
          refine WL.y (hy := mv) (h := ?_)
          refine cl0 (hc := fun w hS => C_gate_Sure (moreQ q E.n) x0 id (fun _ => by show q.gs.length ≤ 12; omega) w ⟨hS.get (by repeat (first | exact Rds.own | apply Rds.there)), hS.get (by repeat (first | exact Rds.own | apply Rds.there)), hgn, hfn⟩) (h := ?_)
          refine WL.y (hy := mv) (h := ?_)
          refine WL.y (hy := ex) (h := ?_)
          refine WL.y (hy := ex) (h := ?_)
          refine al (h := fun b2 => ?_)
          first | refine stA (h := ?_) | refine stEA (h := ?_)
          refine WL.y (hy := asg) (h := ?_)
          refine nl (h := ?_)
          refine q_seq (h := ?_)
          refine sq (h := ?_)
          refine rg (h := ?_)
          refine WL.y (hy := mv) (h := ?_)
          refine WL.y (hy := (Yd.fl (neq) (by rw [hs0]; rfl))) (h := ?_)
          refine nl (h := ?_)
          refine q_seq (h := ?_)
          refine cdF (h := ?_)
          refine skp (h := ?_)
          refine q_seq (h := ?_)
          refine sq (h := ?_)
          refine sq (h := ?_)
          refine rg (h := ?_)
          refine WL.y (hy := mv) (h := ?_)
          refine WL.y (hy := lss) (h := ?_)
          refine WL.y (hy := mv) (h := ?_)
          apply brOr 4 125 129 (by exact rfl)
          · intro hb15
            refine un (h := ?_)
            refine WL.y (hy := mv) (h := ?_)
            refine un (h := ?_)
            refine WL.y (hy := mv) (h := ?_)
            refine un (h := ?_)
            refine WL.y (hy := geq) (h := ?_)
            refine WL.y (hy := (by first | exact pkT | exact pkF)) (h := ?_)
            exact mg (by repeat (first | exact trivial | refine ⟨rfl, ?_⟩ | refine ⟨by rw [hb15]; rfl, ?_⟩)) (by repeat (first | exact SubL.nil | (apply SubL.cons; (repeat (first | exact At.here | apply At.there))) | exact SubL.refl _ | apply SubL.skip))
          · intro hb15
            repeat (first | refine un (h := ?_) | refine sk (h := ?_) | refine WL.y (hy := pkF) (h := ?_) | refine WL.y (hy := pkT) (h := ?_))
            exact mg (by repeat (first | exact trivial | refine ⟨rfl, ?_⟩ | refine ⟨by rw [hb15]; rfl, ?_⟩)) (by repeat (first | exact SubL.nil | (apply SubL.cons; (repeat (first | exact At.here | apply At.there))) | exact SubL.refl _ | apply SubL.skip))
          refine nl (h := ?_)
          refine q_seq (h := ?_)
          refine cd (by exact rfl) (fun h16 => ?_) (fun h16 => ?_)
          · skip
            refine sq (h := ?_)
            refine rg (h := ?_)
            refine cl0 (hc := fun w hS => C_law11_works w) (h := ?_)
            refine WL.y (hy := asg) (h := ?_)
            refine nl (h := ?_)
            refine q_seq (h := ?_)
            refine rtn (h := ?_)
            refine q_then_ret (h := ?_)
            refine q_ret (hR := ?_)
            first
              | exact fun w hS => ⟨rfl, hS.sub (by repeat (first | exact SubL.nil | (apply SubL.cons; (repeat (first | exact At.here | apply At.there))) | exact SubL.refl _ | apply SubL.skip))⟩
              | (refine fun w hS => ⟨congrArg (fun b => Ending.returned (Value.bool b)) ?_, hS.sub (by repeat (first | exact SubL.nil | (apply SubL.cons; (repeat (first | exact At.here | apply At.there))) | exact SubL.refl _ | apply SubL.skip))⟩; simp only [Bool.and_true, Bool.or_eq_true, decide_eq_true_eq]; omega)
          · skip
            have hfe : 0 ≤ fewer ∧ fewer < E.n := by simp only [Bool.or_eq_false_iff, decide_eq_false_iff_not] at h16; omega
            have hmo2 := more_ok hR.b (n := fewer) (by omega)
            have hs2 := hs1 fewer hfe.1 hfe.2
            refine skp (h := ?_)
            refine q_seq (h := ?_)
            refine sq (h := ?_)
            refine rg (h := ?_)
            refine WL.y (hy := (by first | exact fa | exact faE)) (h := ?_)
            refine WL.y (hy := (by first | exact ld | exact ldE)) (h := ?_)
            refine WL.y (hy := mv) (h := ?_)
            refine WL.y (hy := addI) (h := ?_)
            refine WL.y (hy := (by first | exact fa | exact faE)) (h := ?_)
            first | refine st (h := ?_) | refine stE (h := ?_)
            refine nl (h := ?_)
            refine q_seq (h := ?_)
            refine sq (h := ?_)
            refine rg (h := ?_)
            refine WL.y (hy := (by first | exact ldA | exact ldEA)) (h := ?_)
            refine WL.y (hy := mv) (h := ?_)
            refine cl0 (hc := fun w hS => C_gate_Sure (moreQ q fewer) x0 id (fun _ => by show q.gs.length ≤ 12; omega) w ⟨hS.get (by repeat (first | exact Rds.own | apply Rds.there)), hS.get (by repeat (first | exact Rds.own | apply Rds.there)), hgn, hfn⟩) (h := ?_)
            refine WL.y (hy := mv) (h := ?_)
            refine WL.y (hy := ex) (h := ?_)
            refine WL.y (hy := ex) (h := ?_)
            refine al (h := fun b3 => ?_)
            first | refine stA (h := ?_) | refine stEA (h := ?_)
            refine WL.y (hy := asg) (h := ?_)
            refine nl (h := ?_)
            refine q_seq (h := ?_)
            refine sq (h := ?_)
            refine rg (h := ?_)
            refine WL.y (hy := mv) (h := ?_)
            refine WL.y (hy := (Yd.tr (eql) (by refine decide_eq_true hs2))) (h := ?_)
            refine WL.y (hy := mv) (h := ?_)
            refine un (h := ?_)
            refine cl0 (hc := fun w hS => C_law11_works w) (h := ?_)
            refine WL.y (hy := (by first | exact pkT | exact pkF)) (h := ?_)
            refine WL.y (hy := asg) (h := ?_)
            refine nl (h := ?_)
            refine q_seq (h := ?_)
            refine rtn (h := ?_)
            refine q_ret (hR := ?_)
            first
              | exact fun w hS => ⟨rfl, hS.sub (by repeat (first | exact SubL.nil | (apply SubL.cons; (repeat (first | exact At.here | apply At.there))) | exact SubL.refl _ | apply SubL.skip))⟩
              | (refine fun w hS => ⟨congrArg (fun b => Ending.returned (Value.bool b)) ?_, hS.sub (by repeat (first | exact SubL.nil | (apply SubL.cons; (repeat (first | exact At.here | apply At.there))) | exact SubL.refl _ | apply SubL.skip))⟩; simp only [Bool.and_true, Bool.or_eq_true, decide_eq_true_eq]; omega)
end Go.Proofs.Ytbcclgfobiholaa
