/- Walks of gate, eight: a whole day at a rate. -/
import Derived.Test.YtbcclgfobiholaaG7
namespace Go.Proofs.Ytbcclgfobiholaa
open Go Go.RowKit

def freeTo (fs : List Fe) (minute : Int) : Nat → Int
  | 0 => 0
  | k + 1 => match fs[k]? with
    | some f => freeTo fs minute k + (bif decide (f.1 = minute) then f.2 else 0)
    | none => freeTo fs minute k
def freeAll (fs : List Fe) (minute : Int) : Int := freeTo fs minute fs.length
def freedV (q : Qu) (minute : Int) (s : Cr) : Cr := { s with free := s.free + freeAll q.fs minute }
def minuteV (q : Qu) (rate : Int) (ord : List Int) (minute : Int) (s : Cr) : Cr :=
  bif decide (q.opn ≤ minute) then passV q.gs minute rate.toNat rate (joinV q.gs ord minute (freedV q minute s)) else joinV q.gs ord minute (freedV q minute s)
def runTo (q : Qu) (rate more : Int) : Nat → Cr
  | 0 => open0 q more
  | k + 1 => minuteV q rate (ordV q) k (runTo q rate more k)
def runV (q : Qu) (rate more : Int) : List Int := (runTo q rate more 1441).inn

/-! #### what holds all along -/
def atV (gs : List Pt) (i : Int) : Int := match gs[i.toNat]? with
  | some g => g.at_
  | none => 0
theorem freeTo_rng {q : Qu} (hq : q.Ok) (minute : Int) : ∀ k, k ≤ q.fs.length → 0 ≤ freeTo q.fs minute k ∧ freeTo q.fs minute k ≤ 9999 * k
  | 0, _ => by simp [freeTo]
  | k + 1, hk => by
    have ih := freeTo_rng hq minute k (by omega)
    have hf : q.fs[k]? = some q.fs[k] := List.getElem?_eq_getElem (by omega)
    have hfe := hq.fe _ (List.mem_of_getElem? hf)
    simp only [feOk, isT, Bool.and_eq_true, win_iff] at hfe
    rw [freeTo, hf]
    show 0 ≤ freeTo q.fs minute k + (bif decide (q.fs[k].1 = minute) then q.fs[k].2 else 0) ∧ freeTo q.fs minute k + (bif decide (q.fs[k].1 = minute) then q.fs[k].2 else 0) ≤ _
    cases decide (q.fs[k].1 = minute) <;> simp only [cond_true, cond_false] <;> omega
theorem freeAll_rng {q : Qu} (hq : q.Ok) (minute : Int) : 0 ≤ freeAll q.fs minute ∧ freeAll q.fs minute ≤ 399960 := by
  have := freeTo_rng hq minute q.fs.length (Nat.le_refl _)
  have := hq.f
  unfold freeAll; omega
structure RI (q : Qu) (k : Nat) (s : Cr) : Prop where
  ok : s.Ok q
  pw : 0 < s.passing → s.ws ≠ []
  wl : s.ws.length ≤ ((ordV q).filter fun i => decide (atV q.gs i < k)).length
  f : s.free ≤ 110000 + 400000 * (k : Int)
theorem filter_part {α : Type} (l : List α) (p q r : α → Bool) (h : ∀ x ∈ l, r x = (p x || q x)) (hd : ∀ x ∈ l, p x = true → q x = false) : (l.filter r).length = (l.filter p).length + (l.filter q).length := by
  induction l with
  | nil => rfl
  | cons x l ih =>
    have ih' := ih (fun y hy => h y (by simp [hy])) (fun y hy => hd y (by simp [hy]))
    have hx := h x (by simp)
    have hdx := hd x (by simp)
    simp only [List.filter_cons]
    cases hp : p x <;> cases hq : q x <;> rw [hp, hq] at hx <;> simp only [hx, Bool.or_self, Bool.or_false, Bool.or_true] <;> simp [ih'] <;> try omega
    rw [hq] at hdx; exact absurd (hdx hp) (by decide)
theorem arr_le (q : Qu) (k : Nat) : ((ordV q).filter (arrV q.gs (k : Int))).length ≤ ((ordV q).filter fun i => decide (atV q.gs i = (k : Int))).length := by
  refine List.Sublist.length_le ?_
  have : (ordV q).filter (arrV q.gs (k : Int)) = ((ordV q).filter fun i => decide (atV q.gs i = (k : Int))).filter (arrV q.gs (k : Int)) := by
    rw [List.filter_filter]
    congr 1
    funext i
    unfold arrV atV
    cases q.gs[i.toNat]? with
    | none => rfl
    | some g => simp only; cases decide (g.at_ = (k : Int)) <;> simp
  rw [this]
  exact List.filter_sublist
theorem first_le {s : Cr} (h : 0 < s.passing → s.ws ≠ []) : firstN s ≤ s.ws.length := by
  unfold firstN
  by_cases hp : 0 < s.passing
  · rw [decide_eq_true hp]
    exact List.length_pos_iff.2 (h hp)
  · rw [decide_eq_false hp]; exact Nat.zero_le _
theorem freed_ri {q : Qu} (hq : q.Ok) {k : Nat} (hk : k ≤ 1441) {s : Cr} (h : RI q k s) : (freedV q k s).Ok q ∧ (freedV q k s).free ≤ 110000 + 400000 * ((k : Int) + 1) := by
  obtain ⟨⟨h1, h2, h3, h4⟩, h5, h6, h7⟩ := h
  have := freeAll_rng hq k
  exact ⟨⟨h1, h2, h3, by show 0 ≤ s.free + freeAll q.fs k ∧ s.free + freeAll q.fs k ≤ 1000000000000; omega⟩, by show s.free + freeAll q.fs k ≤ _; omega⟩
theorem join_ri {q : Qu} (hq : q.Ok) {k : Nat} (hk : k ≤ 1441) {s : Cr} (h : RI q k s) : RI q (k + 1) (joinV q.gs (ordV q) k (freedV q k s)) := by
  obtain ⟨ho, hf⟩ := freed_ri hq hk h
  have hfl := first_le h.pw
  refine ⟨⟨fun i hi => ?_, ho.inn, ho.p, ho.f⟩, fun hp => ?_, ?_, by push_cast; exact hf⟩
  · rcases List.mem_append.1 hi with hi | hi
    · rcases List.mem_append.1 hi with hi | hi
      · exact ho.ws i (List.mem_of_mem_take hi)
      · exact ho.ws i (List.mem_of_mem_drop (List.mem_filter.1 hi).1)
    · exact ordV_mem.1 (List.mem_filter.1 hi).1
  · have hf1 : firstN (freedV q k s) = 1 := by
      have hp' : 0 < (freedV q k s).passing := hp
      unfold firstN; rw [decide_eq_true hp']; rfl
    have hne := h.pw hp
    intro he
    have : (keptV q.gs k (freedV q k s)) = [] := (List.append_eq_nil_iff.1 he).1
    rw [keptV, hf1] at this
    have h0 := (List.append_eq_nil_iff.1 this).1
    cases hw : s.ws with
    | nil => exact hne hw
    | cons y t =>
      have : (freedV q k s).ws = y :: t := hw
      rw [this] at h0; cases h0
  · have h1 := kept_len q.gs k (freedV q k s)
    have h2 := arr_le q k
    have h3 := filter_part (ordV q) (fun i => decide (atV q.gs i < (k : Int))) (fun i => decide (atV q.gs i = (k : Int))) (fun i => decide (atV q.gs i < ((k + 1 : Nat) : Int))) (fun i _ => by
        rw [← Bool.decide_or]; exact decide_eq_decide.2 (by omega)) (fun i _ hp => by
        have := of_decide_eq_true hp
        exact decide_eq_false (by omega))
    rw [h3]
    have h4 := h.wl
    have h5 : (freedV q k s).ws.length = s.ws.length := rfl
    show (keptV q.gs k (freedV q k s) ++ (ordV q).filter (arrV q.gs k)).length ≤ _
    rw [List.length_append]
    omega
theorem pass_ri {q : Qu} (hq : q.Ok) {k : Nat} {minute : Int} : ∀ (f : Nat) (rate : Int) (s : Cr), RI q k s → RI q k (passV q.gs minute f rate s)
  | 0, rate, s, h => h
  | f + 1, rate, s, h => by
    cases hw : s.ws with
    | nil => rw [passV_stop (.inr hw)]; exact h
    | cons i t =>
      by_cases hr : 0 < rate
      · cases hst : stopV q.gs i s
        · rw [passV_go hw hr hst]
          obtain ⟨ho, hp1, hp2, hf1, hf2⟩ := passOne_ok (minute := minute) hq h.ok hw hr hst
          have hff : frV q.gs i s ≤ s.free := by
            have := szV_rng hq (h.ok.ws i (by rw [hw]; simp))
            unfold frV
            cases decide (s.passing = 0) <;> simp only [cond_true, cond_false] <;> omega
          refine pass_ri hq f _ _ ⟨ho, fun hp => ?_, ?_, ?_⟩
          · unfold passOne at hp ⊢
            by_cases e : ppV q.gs i s - min rate (ppV q.gs i s) = 0
            · rw [decide_eq_true e] at hp
              simp only [cond_true] at hp
              omega
            · rw [decide_eq_false e]
              show s.ws ≠ []
              rw [hw]; simp
          · have h6 := h.wl
            unfold passOne
            cases decide (ppV q.gs i s - min rate (ppV q.gs i s) = 0)
            · exact h6
            · show t.length ≤ _
              rw [hw] at h6
              simp only [List.length_cons] at h6
              omega
          · have h7 := h.f
            unfold passOne
            cases decide (ppV q.gs i s - min rate (ppV q.gs i s) = 0)
            · show frV q.gs i s ≤ _; omega
            · show frV q.gs i s ≤ _; omega
        · rw [passV_halt hw hst]; exact h
      · rw [passV_stop (.inl (by omega))]; exact h
theorem run_ri {q : Qu} (hq : q.Ok) {rate more : Int} (hm : 0 ≤ more ∧ more ≤ 100000) : ∀ k : Nat, k ≤ 1441 → RI q k (runTo q rate more k)
  | 0, _ => by
    have := hq.s
    exact ⟨⟨(fun i hi => by cases hi), (by simp [runTo, open0]), (by simp [runTo, open0]), (by show 0 ≤ q.seats + more ∧ q.seats + more ≤ 1000000000000; omega)⟩, (fun hp => by simp [runTo, open0] at hp), Nat.zero_le _, (by show q.seats + more ≤ 110000 + 400000 * ((0 : Nat) : Int); omega)⟩
  | k + 1, hk => by
    have ih := run_ri hq (rate := rate) hm k (by omega)
    rw [runTo]
    unfold minuteV
    cases decide (q.opn ≤ (k : Int))
    · exact join_ri hq (by omega) ih
    · exact pass_ri hq _ _ _ (join_ri hq (by omega) ih)
theorem ws_le {q : Qu} {k : Nat} {s : Cr} (h : RI q k s) : s.ws.length ≤ q.gs.length := by
  have h1 := h.wl
  have h2 := List.length_filter_le (fun i => decide (atV q.gs i < (k : Int))) (ordV q)
  rw [ordV_len] at h2
  omega

/-! #### the walk -/
structure RZ where
  (k : Nat) (x : CA)
structure RF where
  (j : Nat)
abbrev runL (q : Qu) (a : QA) (x : CA) (s : Cr) (b b0 : Nat) (R : List Ent) : List Ent := .blk b0 27 (q.cells a) :: .ro a.fA 2 q.fs.length (encF q.fs) :: (joinL q a x (ordV q) s b ++ R)
set_option maxHeartbeats 1000000 in
theorem C_gate_run (q : Qu) (a : QA) (rate more : Int) (hq : q.Ok) (hn : q.gs.length ≤ 12) (hr : 0 ≤ rate ∧ rate ≤ 100) (hm : 0 ≤ more ∧ more ≤ 100000) (w : World) (h : QRd w q a) :
    CR Try.prog 43 [q.val a, .int .i64 rate, .int .i64 more] w (fun _ : Option Addr × Nat => True) (fun p => .slice p.1 q.gs.length p.2) (fun p => [.own p.1 p.2 3 1 q.gs.length (enI (runV q rate more))]) := by
  have hqr := h
  obtain ⟨hg, hf, hgn, hfn⟩ := h
  refine ⟨en Try.func43 Try.ntmps43 (((St.init w).share (e := .ro a.gA 4 q.gs.length (encPt q.gs)) hg rfl rfl rfl).share (e := .ro a.fA 2 q.fs.length (encF q.fs)) hf rfl rfl rfl) (h := fun F => ?_)⟩
  refine sq (h := ?_)
  refine rg (h := ?_)
  refine bxA (h := fun b0 => ?_)
  refine WL.y (hy := asg) (h := ?_)
  refine nl (h := ?_)
  refine q_seq (h := ?_)
  refine sq (h := ?_)
  refine rg (h := ?_)
  refine WL.y (hy := (by first | exact ldA | exact ldEA)) (h := ?_)
  refine WL.y (hy := mv) (h := ?_)
  refine cl (hc := fun w hS => C_gate_open q a more hq hn hm w ⟨hS.get, hS.get, hgn, hfn⟩) (h := fun x0 _ => ?_)
  refine WL.y (hy := asg) (h := ?_)
  refine nl (h := ?_)
  refine q_seq (h := ?_)
  refine sq (h := ?_)
  refine sq (h := ?_)
  refine rg (h := ?_)
  refine WL.y (hy := mv) (h := ?_)
  refine nl (h := ?_)
  refine q_seq (h := ?_)
  refine bk (h := ?_)
  refine lp (X := RZ) (I := fun z => z.k ≤ 1441 ∧ RI q z.k (runTo q rate more z.k)) (le := fun z => [(1, .int .i64 rate), (3, .pointer (some ⟨b0, 0, none⟩)), (7, .pointer (some ⟨x0.1, 0, none⟩)), (14, .int .i64 z.k)]) (Le := fun z => runL q a z.x (runTo q rate more z.k) x0.1 b0 []) (μ := fun z => 1441 - z.k) ⟨0, x0.2⟩ ⟨Nat.zero_le _, run_ri hq hm 0 (Nat.zero_le _)⟩ (by repeat (first | exact trivial | refine ⟨rfl, ?_⟩)) (by repeat (first | exact SubL.nil | (apply SubL.cons; (repeat (first | exact At.here | apply At.there))) | exact SubL.refl _ | apply SubL.skip)) (fun z hz => ?_)
  obtain ⟨hz1, hz2⟩ := hz
  refine sq (h := ?_)
  refine rg (h := ?_)
  refine WL.y (hy := lss) (h := ?_)
  refine nl (h := ?_)
  refine q_seq (h := ?_)
  refine sq (h := ?_)
  refine cd (by exact rfl) (fun h0 => ?_) (fun h0 => ?_)
  · skip
    have hkn : z.k < 1441 := by simp only [decide_eq_true_eq] at h0; omega
    have hfr := freed_ri hq (by omega) hz2
    have hjr := join_ri hq (by omega) hz2
    have hwl := ws_le hz2
    have hwj := ws_le hjr
    have hfx := hz2.ok.f
    refine skp (h := ?_)
    refine q_seq (h := ?_)
    refine sq (h := ?_)
    refine bk (h := ?_)
    refine sq (h := ?_)
    refine rg (h := ?_)
    refine WL.y (hy := mv) (h := ?_)
    refine WL.y (hy := asg) (h := ?_)
    refine nl (h := ?_)
    refine q_seq (h := ?_)
    refine sq (h := ?_)
    refine sq (h := ?_)
    refine rg (h := ?_)
    refine WL.y (hy := (by first | exact fa | exact faE)) (h := ?_)
    refine WL.y (hy := (by first | exact ld | exact ldE)) (h := ?_)
    refine WL.y (hy := lenS) (h := ?_)
    refine WL.y (hy := mv) (h := ?_)
    refine nl (h := ?_)
    refine q_seq (h := ?_)
    refine bk (h := ?_)
    refine lp (X := RF) (I := fun y => y.j ≤ q.fs.length) (le := fun y => [(1, .int .i64 rate), (3, .pointer (some ⟨b0, 0, none⟩)), (7, .pointer (some ⟨x0.1, 0, none⟩)), (14, .int .i64 z.k), (8, .int .i64 z.k), (18, .slice a.fA q.fs.length a.fc), (19, .int .i64 q.fs.length), (20, .int .i64 y.j)]) (Le := fun y => runL q a z.x ⟨(runTo q rate more z.k).free + freeTo q.fs z.k y.j, (runTo q rate more z.k).passing, (runTo q rate more z.k).ws, (runTo q rate more z.k).inn⟩ x0.1 b0 []) (μ := fun y => q.fs.length - y.j) ⟨0⟩ (Nat.zero_le _) (by repeat (first | exact trivial | refine ⟨rfl, ?_⟩)) (by dsimp only [runL, freeTo]; rw [Int.add_zero]; repeat (first | exact SubL.nil | (apply SubL.cons; (repeat (first | exact At.here | apply At.there))) | exact SubL.refl _ | apply SubL.skip)) (fun y hy => ?_)
    refine sq (h := ?_)
    refine rg (h := ?_)
    refine WL.y (hy := lss) (h := ?_)
    refine nl (h := ?_)
    refine q_seq (h := ?_)
    refine sq (h := ?_)
    refine cd (by exact rfl) (fun h1 => ?_) (fun h1 => ?_)
    · skip
      have hjn : y.j < q.fs.length := by simp only [decide_eq_true_eq] at h1; omega
      obtain ⟨f, hf1⟩ : ∃ f, q.fs[y.j]? = some f := ⟨_, List.getElem?_eq_getElem hjn⟩
      have hfe := encF_at hf1
      have hfo := hq.fe f (List.mem_of_getElem? hf1)
      simp only [feOk, isT, Bool.and_eq_true, win_iff] at hfo
      have hft := freeTo_rng hq z.k y.j (by omega)
      have hjl40 := hq.f
      have hfs1 : freeTo q.fs z.k (y.j + 1) = freeTo q.fs z.k y.j + (bif decide (f.1 = (z.k : Int)) then f.2 else 0) := by rw [freeTo, hf1]
      refine skp (h := ?_)
      refine q_seq (h := ?_)
      refine sq (h := ?_)
      refine bk (h := ?_)
      refine sq (h := ?_)
      refine rg (h := ?_)
      refine WL.y (hy := ix (A := a.fA) (m := q.fs.length)) (h := ?_)
      refine WL.y (hy := ldEA (A := a.fA) (hk := hfe)) (h := ?_)
      refine al (h := fun uf => ?_)
      first | refine stA (h := ?_) | refine stEA (h := ?_)
      refine nl (h := ?_)
      refine q_seq (h := ?_)
      refine sq (h := ?_)
      refine rg (h := ?_)
      refine WL.y (hy := (by first | exact fa | exact faE)) (h := ?_)
      refine WL.y (hy := (by first | exact ld | exact ldE)) (h := ?_)
      refine WL.y (hy := mv) (h := ?_)
      refine WL.y (hy := eql) (h := ?_)
      refine nl (h := ?_)
      refine q_seq (h := ?_)
      refine cd (by exact rfl) (fun h2 => ?_) (fun h2 => ?_)
      · skip
        have hfs2 : (runTo q rate more z.k).free + freeTo q.fs z.k (y.j + 1) = (runTo q rate more z.k).free + freeTo q.fs z.k y.j + f.2 := by rw [hfs1, h2]; simp only [cond_true]; omega
        refine rgD (by kernel_rfl) [(9, .blk x0.1 85 (crC q a z.x (ordV q) ⟨(runTo q rate more z.k).free + freeTo q.fs z.k y.j, (runTo q rate more z.k).passing, (runTo q rate more z.k).ws, (runTo q rate more z.k).inn⟩)), (1000000, .blk uf 50 [.int .i64 f.1, .int .i64 f.2])] (by repeat (first | exact HS.nil | (apply HS.keep; (repeat (first | exact At.here | apply At.there))) | (apply HS.ro; (repeat (first | exact Rds.ro | exact Rds.own | apply Rds.there))))) (h := ?_)
        refine tk 0 (hy := mv) (h := ?_)
        refine tk 1 (hy := nck) (h := ?_)
        refine tk 2 (hy := (by first | exact fa | exact faE)) (h := ?_)
        refine tk 3 (hy := (by first | exact ld | exact ldE)) (h := ?_)
        refine tk 4 (hy := (by first | exact fa | exact faE)) (h := ?_)
        refine tk 5 (hy := (by first | exact ld | exact ldE)) (h := ?_)
        refine tk 6 (hy := addI (a := (runTo q rate more z.k).free + freeTo q.fs z.k y.j) (b := f.2) (hb := by omega)) (h := ?_)
        refine tk 7 (hy := nck) (h := ?_)
        refine tk 8 (hy := (by first | exact fa | exact faE)) (h := ?_)
        refine one 9 (h := ?_)
        first | refine st (h := ?_) | refine stE (h := ?_)
        refine nx (h := ?_)
        refine dn (h := ?_)
        refine q_blk_norm (h := ?_)
        refine q_seq (h := ?_)
        refine rg (h := ?_)
        refine WL.y (hy := addI) (h := ?_)
        refine WL.y (hy := mv) (h := ?_)
        refine nl (h := ?_)
        refine rn (x := y) ⟨y.j + 1⟩ (by dsimp only; omega) (by dsimp only; omega) (by repeat (first | exact trivial | refine ⟨rfl, ?_⟩)) (by dsimp only [runL]; rw [hfs2]; repeat (first | exact SubL.nil | (apply SubL.cons; (repeat (first | exact At.here | apply At.there))) | exact SubL.refl _ | apply SubL.skip))
      · skip
        have hfs2 : (runTo q rate more z.k).free + freeTo q.fs z.k (y.j + 1) = (runTo q rate more z.k).free + freeTo q.fs z.k y.j := by rw [hfs1, h2]; simp only [cond_false]; omega
        refine skp (h := ?_)
        refine q_blk_norm (h := ?_)
        refine q_seq (h := ?_)
        refine rg (h := ?_)
        refine WL.y (hy := addI) (h := ?_)
        refine WL.y (hy := mv) (h := ?_)
        refine nl (h := ?_)
        refine rn (x := y) ⟨y.j + 1⟩ (by dsimp only; omega) (by dsimp only; omega) (by repeat (first | exact trivial | refine ⟨rfl, ?_⟩)) (by dsimp only [runL]; rw [hfs2]; repeat (first | exact SubL.nil | (apply SubL.cons; (repeat (first | exact At.here | apply At.there))) | exact SubL.refl _ | apply SubL.skip))
    · skip
      have hjn : y.j = q.fs.length := by simp only [decide_eq_false_iff_not] at h1; omega
      rw [show (⟨(runTo q rate more z.k).free + freeTo q.fs z.k y.j, (runTo q rate more z.k).passing, (runTo q rate more z.k).ws, (runTo q rate more z.k).inn⟩ : Cr) = freedV q z.k (runTo q rate more z.k) by rw [hjn]; rfl]
      refine et (h := ?_)
      refine q_then_exit (h := ?_)
      refine q_then_exit (h := ?_)
      refine q_blk_hit (h := ?_)
      refine q_seq (h := ?_)
      refine sq (h := ?_)
      refine rg (h := ?_)
      refine WL.y (hy := mv) (h := ?_)
      refine WL.y (hy := mv) (h := ?_)
      refine clT (hc := T_join q a z.x (ordV q) (freedV q z.k (runTo q rate more z.k)) x0.1 z.k (fun i hi => ordV_mem.1 hi) hfr.1.ws (first_le hz2.pw) ⟨by show (runTo q rate more z.k).ws.length ≤ 1000; omega, by rw [ordV_len]; omega⟩) (hs := (by repeat (first | exact Spl.nil | (apply Spl.cons; (repeat (first | exact At.here | apply At.there)))))) (h := fun x1 _ => ?_)
      refine nl (h := ?_)
      refine q_seq (h := ?_)
      refine sq (h := ?_)
      refine rg (h := ?_)
      refine WL.y (hy := mv) (h := ?_)
      refine WL.y (hy := (by first | exact fa | exact faE)) (h := ?_)
      refine WL.y (hy := (by first | exact ld | exact ldE)) (h := ?_)
      refine WL.y (hy := geq) (h := ?_)
      refine nl (h := ?_)
      refine q_seq (h := ?_)
      refine cd (by exact rfl) (fun h3 => ?_) (fun h3 => ?_)
      · skip
        have hmin : runTo q rate more (z.k + 1) = passV q.gs z.k rate.toNat rate (joinV q.gs (ordV q) z.k (freedV q z.k (runTo q rate more z.k))) := by rw [runTo, minuteV, h3]; rfl
        refine rg (h := ?_)
        refine WL.y (hy := mv) (h := ?_)
        refine WL.y (hy := mv) (h := ?_)
        refine WL.y (hy := mv) (h := ?_)
        refine clT (hc := T_pass q a x1 (ordV q) (joinV q.gs (ordV q) z.k (freedV q z.k (runTo q rate more z.k))) x0.1 z.k rate hq hjr.ok hr (by omega)) (hs := (by repeat (first | exact Spl.nil | (apply Spl.cons; (repeat (first | exact At.here | apply At.there)))))) (h := fun x2 _ => ?_)
        refine nl (h := ?_)
        refine q_blk_norm (h := ?_)
        refine q_seq (h := ?_)
        refine rg (h := ?_)
        refine WL.y (hy := addI) (h := ?_)
        refine WL.y (hy := mv) (h := ?_)
        refine nl (h := ?_)
        first
          | (refine rn (x := z) ⟨z.k + 1, x2⟩ ⟨by dsimp only; omega, run_ri hq hm _ (by dsimp only; omega)⟩ (by dsimp only; omega) (by repeat (first | exact trivial | refine ⟨rfl, ?_⟩)) (by dsimp only [runL]; rw [hmin]; repeat (first | exact SubL.nil | (apply SubL.cons; (repeat (first | exact At.here | apply At.there))) | exact SubL.refl _ | apply SubL.skip)))
          | (refine rn (x := z) ⟨z.k + 1, x1⟩ ⟨by dsimp only; omega, run_ri hq hm _ (by dsimp only; omega)⟩ (by dsimp only; omega) (by repeat (first | exact trivial | refine ⟨rfl, ?_⟩)) (by dsimp only [runL]; rw [hmin]; repeat (first | exact SubL.nil | (apply SubL.cons; (repeat (first | exact At.here | apply At.there))) | exact SubL.refl _ | apply SubL.skip)))
      · skip
        have hmin : runTo q rate more (z.k + 1) = joinV q.gs (ordV q) z.k (freedV q z.k (runTo q rate more z.k)) := by rw [runTo, minuteV, h3]; rfl
        refine skp (h := ?_)
        refine q_blk_norm (h := ?_)
        refine q_seq (h := ?_)
        refine rg (h := ?_)
        refine WL.y (hy := addI) (h := ?_)
        refine WL.y (hy := mv) (h := ?_)
        refine nl (h := ?_)
        first
          | (refine rn (x := z) ⟨z.k + 1, x2⟩ ⟨by dsimp only; omega, run_ri hq hm _ (by dsimp only; omega)⟩ (by dsimp only; omega) (by repeat (first | exact trivial | refine ⟨rfl, ?_⟩)) (by dsimp only [runL]; rw [hmin]; repeat (first | exact SubL.nil | (apply SubL.cons; (repeat (first | exact At.here | apply At.there))) | exact SubL.refl _ | apply SubL.skip)))
          | (refine rn (x := z) ⟨z.k + 1, x1⟩ ⟨by dsimp only; omega, run_ri hq hm _ (by dsimp only; omega)⟩ (by dsimp only; omega) (by repeat (first | exact trivial | refine ⟨rfl, ?_⟩)) (by dsimp only [runL]; rw [hmin]; repeat (first | exact SubL.nil | (apply SubL.cons; (repeat (first | exact At.here | apply At.there))) | exact SubL.refl _ | apply SubL.skip)))
  · skip
    have hkn : z.k = 1441 := by simp only [decide_eq_false_iff_not] at h0; omega
    have hfin : (runTo q rate more z.k).inn = runV q rate more := by rw [hkn]; rfl
    have hil : (runTo q rate more z.k).inn.length = q.gs.length := hz2.ok.inn
    refine et (h := ?_)
    refine q_then_exit (h := ?_)
    refine q_then_exit (h := ?_)
    refine q_blk_hit (h := ?_)
    refine q_seq (h := ?_)
    refine sq (h := ?_)
    refine rg (h := ?_)
    refine WL.y (hy := mv) (h := ?_)
    refine WL.y (hy := nck) (h := ?_)
    refine WL.y (hy := (by first | exact fa | exact faE)) (h := ?_)
    refine WL.y (hy := (by first | exact ld | exact ldE)) (h := ?_)
    refine WL.y (hy := asg) (h := ?_)
    refine nl (h := ?_)
    refine q_seq (h := ?_)
    refine rtn (h := ?_)
    refine q_ret (hR := ?_)
    rw [← hfin, ← hil]
    exact fun w hS => ⟨(z.x.iA, z.x.ic), trivial, rfl, hS.sub (by repeat (first | exact SubL.nil | (apply SubL.cons; (repeat (first | exact At.here | apply At.there))) | exact SubL.refl _ | apply SubL.skip))⟩
end Go.Proofs.Ytbcclgfobiholaa
