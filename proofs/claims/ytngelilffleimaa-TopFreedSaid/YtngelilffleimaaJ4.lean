/- The texts of the walk, part 4. -/
import Derived.Test.YtngelilffleimaaJ3
namespace Go.Proofs.Ytngelilffleimaa
open Go Go.RowKit

theorem C_play_shortest (s : Sn) (w : World) : C0 Try.prog 28 [.agg #[.int .i64 s.1, .int .i64 s.2]] w (.int .i64 s.1) := by
  refine ⟨en Try.func28 Try.ntmps28 (St.init w) (h := fun F => ?_)⟩
  refine sq (h := ?_)
  refine rg (h := ?_)
  refine bxA (h := fun b0 => ?_)
  refine WL.y (hy := asg) (h := ?_)
  refine nl (h := ?_)
  refine q_seq (h := ?_)
  refine sq (h := ?_)
  refine rg (h := ?_)
  refine WL.y (hy := (by first | exact fa | exact faE)) (h := ?_)
  refine WL.y (hy := (by first | exact ld | exact ldE)) (h := ?_)
  refine WL.y (hy := asg) (h := ?_)
  refine nl (h := ?_)
  refine q_seq (h := ?_)
  refine rtn (h := ?_)
  refine q_ret (hR := ?_)
  exact fun w hS => ⟨rfl, hS.sub (by repeat (first | exact SubL.nil | (apply SubL.cons; (repeat (first | exact At.here | apply At.there))) | exact SubL.refl _ | apply SubL.skip))⟩
theorem C_play_longest (s : Sn) (w : World) : C0 Try.prog 29 [.agg #[.int .i64 s.1, .int .i64 s.2]] w (.int .i64 s.2) := by
  refine ⟨en Try.func29 Try.ntmps29 (St.init w) (h := fun F => ?_)⟩
  refine sq (h := ?_)
  refine rg (h := ?_)
  refine bxA (h := fun b0 => ?_)
  refine WL.y (hy := asg) (h := ?_)
  refine nl (h := ?_)
  refine q_seq (h := ?_)
  refine sq (h := ?_)
  refine rg (h := ?_)
  refine WL.y (hy := (by first | exact fa | exact faE)) (h := ?_)
  refine WL.y (hy := (by first | exact ld | exact ldE)) (h := ?_)
  refine WL.y (hy := asg) (h := ?_)
  refine nl (h := ?_)
  refine q_seq (h := ?_)
  refine rtn (h := ?_)
  refine q_ret (hR := ?_)
  exact fun w hS => ⟨rfl, hS.sub (by repeat (first | exact SubL.nil | (apply SubL.cons; (repeat (first | exact At.here | apply At.there))) | exact SubL.refl _ | apply SubL.skip))⟩
theorem runT_inv {p : Pg} (hp : POk p) {o : List Se} (hO : OOk p o) {gl : Sn → Int} (hgr : ∀ (i : Nat) (j : Jb), p.jobs[i]? = some j → 0 ≤ gl j.len ∧ gl j.len ≤ 600) : ∀ k, k ≤ o.length → TsI p k (runT p gl (o.take k))
  | 0, _ => TsI.start hp gl
  | k + 1, hk => by
    have hT := runT_inv hp hO hgr k (by omega)
    obtain ⟨s, hs⟩ : ∃ s, o[k]? = some s := ⟨_, List.getElem?_eq_getElem (by omega)⟩
    have hm := hO.at_ k s (by omega) hs
    have hmj := hm.job
    obtain ⟨j, hj⟩ : ∃ j, p.jobs[s.job.toNat]? = some j := ⟨_, List.getElem?_eq_getElem (by omega)⟩
    have hl8 : p.len gl s.job = gl j.len := by unfold Pg.len; rw [hj]
    rw [runT_succ hs]
    have h1 : (bif decide (s.day = (runT p gl (o.take k)).d.num) then (runT p gl (o.take k)).d else openD p s.day).Ok (1440 + 1200 * (k : Int)) := by
      cases decide (s.day = (runT p gl (o.take k)).d.num)
      · exact (open_ok hp s.day).mono (by omega)
      · exact hT.ok
    have h2 : ∀ i, 0 < (bif decide (s.day = (runT p gl (o.take k)).d.num) then (runT p gl (o.take k)).d else openD p s.day).en i → i < p.jobs.length := by
      cases decide (s.day = (runT p gl (o.take k)).d.num)
      · exact fun i hi => absurd hi (by show ¬ (0 : Int) < 0; omega)
      · exact hT.pos
    have h3 := hT.next hp h1 h2 hmj hj (hgr _ j hj)
    rw [← hl8] at h3
    exact h3
theorem runT_len {p : Pg} (hp : POk p) {o : List Se} (hO : OOk p o) {gl : Sn → Int} (hgr : ∀ (i : Nat) (j : Jb), p.jobs[i]? = some j → 0 ≤ gl j.len ∧ gl j.len ≤ 600) : (runT p gl o).bs.length = p.jobs.length ∧ (runT p gl o).es.length = p.jobs.length := by
  have h := runT_inv hp hO hgr o.length (Nat.le_refl _)
  rw [List.take_length] at h
  exact ⟨h.lb, h.le⟩
def loG : Sn → Int := fun s => s.1
def hiG : Sn → Int := fun s => s.2
theorem loG_rng {p : Pg} (hp : POk p) : ∀ (i : Nat) (j : Jb), p.jobs[i]? = some j → 0 ≤ loG j.len ∧ loG j.len ≤ 600 := fun i j hj => by have := (hp.jb i j (List.getElem?_eq_some_iff.1 hj).1 hj).len; show 0 ≤ j.len.1 ∧ j.len.1 ≤ 600; omega
theorem hiG_rng {p : Pg} (hp : POk p) : ∀ (i : Nat) (j : Jb), p.jobs[i]? = some j → 0 ≤ hiG j.len ∧ hiG j.len ≤ 600 := fun i j hj => by have := (hp.jb i j (List.getElem?_eq_some_iff.1 hj).1 hj).len; show 0 ≤ j.len.2 ∧ j.len.2 ≤ 600; omega
def spT (x y : List Int) (k : Nat) : List Sn := (List.range k).map fun i => (x.getD i 0, y.getD i 0)
theorem spT_succ (x y : List Int) (k : Nat) : spT x y (k + 1) = spT x y k ++ [(x.getD k 0, y.getD k 0)] := by unfold spT; rw [List.range_succ, List.map_append]; rfl
theorem encSn_snoc (x y : List Int) (k : Nat) : encSn (spT x y k) ++ [[Value.int .i64 (x.getD k 0), .int .i64 (y.getD k 0)]] = encSn (spT x y (k + 1)) := by rw [spT_succ]; unfold encSn; rw [List.map_append]; rfl
def tmB (p : Pg) (o : List Se) : List Sn := spT (runT p loG o).bs (runT p hiG o).bs p.jobs.length
def tmE (p : Pg) (o : List Se) : List Sn := spT (runT p loG o).es (runT p hiG o).es p.jobs.length
structure TmZ where
  (k : Nat) (A : Option Addr) (c : Nat) (B : Option Addr) (d : Nat)
structure TmR where
  (A : Option Addr) (c : Nat) (B : Option Addr) (d : Nat)
set_option maxRecDepth 100000 in
set_option maxHeartbeats 1000000 in
theorem C_play_Times (p : Pg) (hp : POk p) (o : List Se) (hO : OOk p o) (oA : Option Addr) (n oc : Nat) (w : World) (h : PgR w p) (ho : Rd w oA 3 n (encSe o)) :
    CR Try.prog 8 [p.val, .slice oA n oc] w (fun _ : TmR => True) (fun q => .tuple #[.slice q.A p.jobs.length q.c, .slice q.B p.jobs.length q.d, .int .i64 0]) (fun q => [.own q.A q.c 43 2 p.jobs.length (encSn (tmB p o)), .own q.B q.d 43 2 p.jobs.length (encSn (tmE p o))]) := by
  have hnj := hp.nj
  obtain ⟨a, ha⟩ : ∃ a, a = runT p loG o := ⟨_, rfl⟩
  obtain ⟨z2, hc2⟩ : ∃ c, c = runT p hiG o := ⟨_, rfl⟩
  have hla := runT_len hp hO (loG_rng hp)
  have hlc := runT_len hp hO (hiG_rng hp)
  rw [← ha] at hla
  rw [← hc2] at hlc
  refine ⟨en Try.func8 Try.ntmps8 (((St.init w).share (e := .ro p.jA 6 p.jobs.length (encJb p.jobs)) h.j rfl rfl rfl).share (e := .ro oA 3 n (encSe o)) ho rfl rfl rfl) (h := fun F => ?_)⟩
  refine sq (h := ?_)
  refine rg (h := ?_)
  refine bxA (h := fun b0 => ?_)
  refine WL.y (hy := asg) (h := ?_)
  refine WL.cut (by repeat (first | exact Cut.nil | apply Cut.hit | apply Cut.miss (by exact rfl))) ?_
  refine WL.y (hy := asg) (h := ?_)
  refine WL.cut (by repeat (first | exact Cut.nil | apply Cut.hit | apply Cut.miss (by exact rfl))) ?_
  refine WL.y (hy := asg) (h := ?_)
  refine WL.cut (by repeat (first | exact Cut.nil | apply Cut.hit | apply Cut.miss (by exact rfl))) ?_
  refine nl (h := ?_)
  refine q_seq (h := ?_)
  refine sq (h := ?_)
  refine sq (h := ?_)
  refine rg (h := ?_)
  refine WL.y (hy := (by first | exact ldA | exact ldEA)) (h := ?_)
  refine cl0 (hc := fun w hS => C_play_Check p hp w (h.old hS)) (h := ?_)
  refine WL.y (hy := asg) (h := ?_)
  refine WL.cut (by repeat (first | exact Cut.nil | apply Cut.hit | apply Cut.miss (by exact rfl))) ?_
  refine nl (h := ?_)
  refine q_seq (h := ?_)
  refine sq (h := ?_)
  refine rg (h := ?_)
  refine WL.y (hy := mv) (h := ?_)
  refine WL.y (hy := (Yd.fl (neq) (by rfl))) (h := ?_)
  refine nl (h := ?_)
  refine q_seq (h := ?_)
  refine cdF (h := ?_)
  refine skp (h := ?_)
  refine q_seq (h := ?_)
  refine sq (h := ?_)
  refine sq (h := ?_)
  refine rg (h := ?_)
  refine WL.y (hy := (by first | exact ldA | exact ldEA)) (h := ?_)
  refine WL.y (hy := mv) (h := ?_)
  refine cl0 (hc := fun w hS => C_play_isOrder p hp o hO oA n oc w (h.old hS) (hS.get (by repeat (first | exact Rds.ro | exact Rds.own | apply Rds.there)))) (h := ?_)
  refine WL.y (hy := (Yd.fl (notB) (by rfl))) (h := ?_)
  refine nl (h := ?_)
  refine q_seq (h := ?_)
  refine cdF (h := ?_)
  refine skp (h := ?_)
  refine q_seq (h := ?_)
  refine sq (h := ?_)
  refine rg (h := ?_)
  refine WL.y (hy := (by first | exact ldA | exact ldEA)) (h := ?_)
  refine WL.y (hy := mv) (h := ?_)
  refine cl (hc := fun w hS => C_play_times p hp o hO 28 inferInstance loG (fun s w => C_play_shortest s w) (loG_rng hp) oA n oc w (h.old hS) (hS.get (by repeat (first | exact Rds.ro | exact Rds.own | apply Rds.there)))) (h := fun q1 _ => ?_)
  rw [← ha]
  refine WL.y (hy := mv) (h := ?_)
  refine WL.y (hy := ex) (h := ?_)
  refine WL.y (hy := ex) (h := ?_)
  refine WL.y (hy := asg) (h := ?_)
  refine WL.y (hy := asg) (h := ?_)
  refine nl (h := ?_)
  refine q_seq (h := ?_)
  refine sq (h := ?_)
  refine rg (h := ?_)
  refine WL.y (hy := (by first | exact ldA | exact ldEA)) (h := ?_)
  refine WL.y (hy := mv) (h := ?_)
  refine cl (hc := fun w hS => C_play_times p hp o hO 29 inferInstance hiG (fun s w => C_play_longest s w) (hiG_rng hp) oA n oc w (h.old hS) (hS.get (by repeat (first | exact Rds.ro | exact Rds.own | apply Rds.there)))) (h := fun q2 _ => ?_)
  rw [← hc2]
  refine WL.y (hy := mv) (h := ?_)
  refine WL.y (hy := ex) (h := ?_)
  refine WL.y (hy := ex) (h := ?_)
  refine WL.y (hy := asg) (h := ?_)
  refine WL.y (hy := asg) (h := ?_)
  refine nl (h := ?_)
  refine q_seq (h := ?_)
  refine sq (h := ?_)
  refine sq (h := ?_)
  refine WC.nilOwn 43 2 (h := ?_)
  refine WC.nilOwn 43 2 (h := ?_)
  refine rg (h := ?_)
  refine WL.y (hy := (by first | exact fa | exact faE)) (h := ?_)
  refine WL.y (hy := (by first | exact ld | exact ldE)) (h := ?_)
  refine WL.y (hy := lenS) (h := ?_)
  refine WL.y (hy := mv) (h := ?_)
  refine nl (h := ?_)
  refine q_seq (h := ?_)
  refine bk (h := ?_)
  refine lp (X := TmZ) (I := fun z => z.k ≤ p.jobs.length) (le := fun z => [(4, .slice z.A z.k z.c), (5, .slice z.B z.k z.d), (8, .slice (some ⟨q1.1, 0, none⟩) p.jobs.length p.jobs.length), (9, .slice (some ⟨q1.2, 0, none⟩) p.jobs.length p.jobs.length), (10, .slice (some ⟨q2.1, 0, none⟩) p.jobs.length p.jobs.length), (11, .slice (some ⟨q2.2, 0, none⟩) p.jobs.length p.jobs.length), (36, .int .i64 p.jobs.length), (37, .int .i64 z.k)]) (Le := fun z => [.own z.A z.c 43 2 z.k (encSn (spT a.bs z2.bs z.k)), .own z.B z.d 43 2 z.k (encSn (spT a.es z2.es z.k)), .own (some ⟨q1.1, 0, none⟩) p.jobs.length 3 1 p.jobs.length (enI a.bs), .own (some ⟨q1.2, 0, none⟩) p.jobs.length 3 1 p.jobs.length (enI a.es), .own (some ⟨q2.1, 0, none⟩) p.jobs.length 3 1 p.jobs.length (enI z2.bs), .own (some ⟨q2.2, 0, none⟩) p.jobs.length 3 1 p.jobs.length (enI z2.es)]) (μ := fun z => p.jobs.length - z.k) ⟨0, none, 0, none, 0⟩ (Nat.zero_le _) (by repeat (first | exact trivial | refine ⟨rfl, ?_⟩)) (by repeat (first | exact SubL.nil | (apply SubL.cons; (repeat (first | exact At.here | apply At.there))) | exact SubL.refl _ | apply SubL.skip)) (fun z hz => ?_)
  refine sq (h := ?_)
  refine rg (h := ?_)
  refine WL.y (hy := lss) (h := ?_)
  refine nl (h := ?_)
  refine q_seq (h := ?_)
  refine sq (h := ?_)
  refine cd (by exact rfl) (fun h2 => ?_) (fun h2 => ?_)
  · skip
    have hkn : z.k < p.jobs.length := by have := of_decide_eq_true h2; omega
    have e1 := enI_at (getD_get (l := a.bs) (i := z.k) (by omega))
    have e2 := enI_at (getD_get (l := a.es) (i := z.k) (by omega))
    have e3 := enI_at (getD_get (l := z2.bs) (i := z.k) (by omega))
    have e4 := enI_at (getD_get (l := z2.es) (i := z.k) (by omega))
    refine skp (h := ?_)
    refine q_seq (h := ?_)
    refine sq (h := ?_)
    refine bk (h := ?_)
    refine sq (h := ?_)
    refine rg (h := ?_)
    refine WL.y (hy := mv) (h := ?_)
    refine WL.y (hy := asg) (h := ?_)
    refine WL.cut (by repeat (first | exact Cut.nil | apply Cut.hit | apply Cut.miss (by exact rfl))) ?_
    refine nl (h := ?_)
    refine q_seq (h := ?_)
    refine rgD (by kernel_rfl) [(1000000, .own (some ⟨q1.1, 0, none⟩) p.jobs.length 3 1 p.jobs.length (enI a.bs)), (1000000, .own (some ⟨q1.2, 0, none⟩) p.jobs.length 3 1 p.jobs.length (enI a.es)), (1000000, .own (some ⟨q2.1, 0, none⟩) p.jobs.length 3 1 p.jobs.length (enI z2.bs)), (1000000, .own (some ⟨q2.2, 0, none⟩) p.jobs.length 3 1 p.jobs.length (enI z2.es))] (by repeat (first | exact HS.nil | (apply HS.keep; (repeat (first | exact At.here | apply At.there))) | (apply HS.ro; (repeat (first | exact Rds.ro | exact Rds.own | apply Rds.there))))) (h := ?_)
    refine tk 0 (hy := mv) (h := ?_)
    refine tk 1 (hy := mv) (h := ?_)
    refine tk 2 (hy := mv) (h := ?_)
    refine tk 3 (hy := ix (A := some ⟨q1.1, 0, none⟩) (m := p.jobs.length) (hb := by omega)) (h := ?_)
    refine tk 4 (hy := ldE (A := some ⟨q1.1, 0, none⟩) (hk := e1)) (h := ?_)
    refine tk 5 (hy := mv) (h := ?_)
    refine tk 6 (hy := mv) (h := ?_)
    refine tk 7 (hy := ix (A := some ⟨q2.1, 0, none⟩) (m := p.jobs.length) (hb := by omega)) (h := ?_)
    refine tk 8 (hy := ldE (A := some ⟨q2.1, 0, none⟩) (hk := e3)) (h := ?_)
    refine tk 9 (hy := bd) (h := ?_)
    refine tk 12 (hy := mv) (h := ?_)
    refine tk 13 (hy := mv) (h := ?_)
    refine tk 14 (hy := mv) (h := ?_)
    refine tk 15 (hy := ix (A := some ⟨q1.2, 0, none⟩) (m := p.jobs.length) (hb := by omega)) (h := ?_)
    refine tk 16 (hy := ldE (A := some ⟨q1.2, 0, none⟩) (hk := e2)) (h := ?_)
    refine tk 17 (hy := mv) (h := ?_)
    refine tk 18 (hy := mv) (h := ?_)
    refine tk 19 (hy := ix (A := some ⟨q2.2, 0, none⟩) (m := p.jobs.length) (hb := by omega)) (h := ?_)
    refine tk 20 (hy := ldE (A := some ⟨q2.2, 0, none⟩) (hk := e4)) (h := ?_)
    refine tk 21 (hy := bd) (h := ?_)
    refine two 10 22 (h1 := ?_) (h2 := ?_)
    · skip
      refine bs (h := fun b1 => ?_)
      refine nx (h := ?_)
      refine two 11 22 (h1 := ?_) (h2 := ?_)
      · skip
        refine ap (es := encSn (spT a.bs z2.bs z.k)) (m := z.k) (k := 1) (A := z.A) (c := z.c) (es2 := [[.int .i64 (a.bs.getD z.k 0), .int .i64 (z2.bs.getD z.k 0)]]) (h := fun A1 c1 => ?_)
        rw [encSn_snoc]
        refine nx (h := ?_)
        refine one 22 (h := ?_)
        refine bs (h := fun b2 => ?_)
        refine nx (h := ?_)
        refine one 23 (h := ?_)
        refine ap (es := encSn (spT a.es z2.es z.k)) (m := z.k) (k := 1) (A := z.B) (c := z.d) (es2 := [[.int .i64 (a.es.getD z.k 0), .int .i64 (z2.es.getD z.k 0)]]) (h := fun A2 c2 => ?_)
        rw [encSn_snoc]
        refine nx (h := ?_)
        refine tk 24 (hy := asg) (h := ?_)
        refine tk 25 (hy := asg) (h := ?_)
        refine dn (h := ?_)
        refine q_blk_norm (h := ?_)
        refine q_seq (h := ?_)
        refine rg (h := ?_)
        refine WL.y (hy := addI) (h := ?_)
        refine WL.y (hy := mv) (h := ?_)
        refine nl (h := ?_)
        refine rn (x := z) ⟨z.k + 1, A1, c1, A2, c2⟩ hkn (by dsimp only; omega) (by repeat (first | exact trivial | refine ⟨rfl, ?_⟩)) (by repeat (first | exact SubL.nil | (apply SubL.cons; (repeat (first | exact At.here | apply At.there))) | exact SubL.refl _ | apply SubL.skip))
      · skip
        refine bs (h := fun b3 => ?_)
        refine nx (h := ?_)
        refine one 11 (h := ?_)
        refine ap (es := encSn (spT a.bs z2.bs z.k)) (m := z.k) (k := 1) (A := z.A) (c := z.c) (es2 := [[.int .i64 (a.bs.getD z.k 0), .int .i64 (z2.bs.getD z.k 0)]]) (h := fun A1 c1 => ?_)
        rw [encSn_snoc]
        refine nx (h := ?_)
        refine one 23 (h := ?_)
        refine ap (es := encSn (spT a.es z2.es z.k)) (m := z.k) (k := 1) (A := z.B) (c := z.d) (es2 := [[.int .i64 (a.es.getD z.k 0), .int .i64 (z2.es.getD z.k 0)]]) (h := fun A2 c2 => ?_)
        rw [encSn_snoc]
        refine nx (h := ?_)
        refine tk 24 (hy := asg) (h := ?_)
        refine tk 25 (hy := asg) (h := ?_)
        refine dn (h := ?_)
        refine q_blk_norm (h := ?_)
        refine q_seq (h := ?_)
        refine rg (h := ?_)
        refine WL.y (hy := addI) (h := ?_)
        refine WL.y (hy := mv) (h := ?_)
        refine nl (h := ?_)
        refine rn (x := z) ⟨z.k + 1, A1, c1, A2, c2⟩ hkn (by dsimp only; omega) (by repeat (first | exact trivial | refine ⟨rfl, ?_⟩)) (by repeat (first | exact SubL.nil | (apply SubL.cons; (repeat (first | exact At.here | apply At.there))) | exact SubL.refl _ | apply SubL.skip))
    · skip
      refine bs (h := fun b4 => ?_)
      refine nx (h := ?_)
      refine one 10 (h := ?_)
      refine bs (h := fun b5 => ?_)
      refine nx (h := ?_)
      refine one 11 (h := ?_)
      refine ap (es := encSn (spT a.bs z2.bs z.k)) (m := z.k) (k := 1) (A := z.A) (c := z.c) (es2 := [[.int .i64 (a.bs.getD z.k 0), .int .i64 (z2.bs.getD z.k 0)]]) (h := fun A1 c1 => ?_)
      rw [encSn_snoc]
      refine nx (h := ?_)
      refine one 23 (h := ?_)
      refine ap (es := encSn (spT a.es z2.es z.k)) (m := z.k) (k := 1) (A := z.B) (c := z.d) (es2 := [[.int .i64 (a.es.getD z.k 0), .int .i64 (z2.es.getD z.k 0)]]) (h := fun A2 c2 => ?_)
      rw [encSn_snoc]
      refine nx (h := ?_)
      refine tk 24 (hy := asg) (h := ?_)
      refine tk 25 (hy := asg) (h := ?_)
      refine dn (h := ?_)
      refine q_blk_norm (h := ?_)
      refine q_seq (h := ?_)
      refine rg (h := ?_)
      refine WL.y (hy := addI) (h := ?_)
      refine WL.y (hy := mv) (h := ?_)
      refine nl (h := ?_)
      refine rn (x := z) ⟨z.k + 1, A1, c1, A2, c2⟩ hkn (by dsimp only; omega) (by repeat (first | exact trivial | refine ⟨rfl, ?_⟩)) (by repeat (first | exact SubL.nil | (apply SubL.cons; (repeat (first | exact At.here | apply At.there))) | exact SubL.refl _ | apply SubL.skip))
  · skip
    have hkn : z.k = p.jobs.length := by have := of_decide_eq_false h2; omega
    rw [hkn]
    refine et (h := ?_)
    refine q_then_exit (h := ?_)
    refine q_then_exit (h := ?_)
    refine q_blk_hit (h := ?_)
    refine q_seq (h := ?_)
    refine sq (h := ?_)
    refine rg (h := ?_)
    refine WL.y (hy := mv) (h := ?_)
    refine WL.y (hy := mv) (h := ?_)
    refine WL.y (hy := asg) (h := ?_)
    refine WL.cut (by repeat (first | exact Cut.nil | apply Cut.hit | apply Cut.miss (by exact rfl))) ?_
    refine WL.y (hy := asg) (h := ?_)
    refine WL.cut (by repeat (first | exact Cut.nil | apply Cut.hit | apply Cut.miss (by exact rfl))) ?_
    refine WL.y (hy := asg) (h := ?_)
    refine WL.cut (by repeat (first | exact Cut.nil | apply Cut.hit | apply Cut.miss (by exact rfl))) ?_
    refine nl (h := ?_)
    refine q_seq (h := ?_)
    refine rtn (h := ?_)
    refine q_ret (hR := ?_)
    unfold tmB tmE
    rw [← ha, ← hc2]
    exact fun w hS => ⟨⟨z.A, z.c, z.B, z.d⟩, trivial, rfl, hS.sub (by repeat (first | exact SubL.nil | (apply SubL.cons; (repeat (first | exact At.here | apply At.there))) | exact SubL.refl _ | apply SubL.skip))⟩
def FitI (p : Pg) (o : List Se) : Prop := ∀ (i : Nat) (s : Se) (d : Dy) (c : Sn), o[i]? = some s → p.days[s.day.toNat]? = some d → d.sp[s.court.toNat]? = some c → (runT p hiG o).es.getD s.job.toNat 0 ≤ c.2
set_option maxRecDepth 100000 in
theorem C_play_Fits (p : Pg) (hp : POk p) (o : List Se) (hO : OOk p o) (hF : FitI p o) (oA : Option Addr) (n oc : Nat) (w : World) (h : PgR w p) (ho : Rd w oA 3 n (encSe o)) :
    C0 Try.prog 21 [p.val, .slice oA n oc] w (.tuple #[.bool true, .int .i64 (-1), .int .i64 0]) := by
  have hlen : o.length = n := by have := ho.len; rwa [encSe_len] at this
  have hnj := hp.nj
  have hon := hO.n
  obtain ⟨z2, hc2⟩ : ∃ c, c = runT p hiG o := ⟨_, rfl⟩
  have hlc := runT_len hp hO (hiG_rng hp)
  rw [← hc2] at hlc
  refine ⟨en Try.func21 Try.ntmps21 ((((St.init w).share (e := .ro p.dA 1 p.days.length (encDy p.days)) h.d rfl rfl rfl).share (e := .ro p.jA 6 p.jobs.length (encJb p.jobs)) h.j rfl rfl rfl).share (e := .ro oA 3 n (encSe o)) ho rfl rfl rfl) (h := fun F => ?_)⟩
  refine sq (h := ?_)
  refine rg (h := ?_)
  refine bxA (h := fun b0 => ?_)
  refine WL.y (hy := asg) (h := ?_)
  refine WL.cut (by repeat (first | exact Cut.nil | apply Cut.hit | apply Cut.miss (by exact rfl))) ?_
  refine WL.y (hy := asg) (h := ?_)
  refine WL.cut (by repeat (first | exact Cut.nil | apply Cut.hit | apply Cut.miss (by exact rfl))) ?_
  refine WL.y (hy := asg) (h := ?_)
  refine WL.cut (by repeat (first | exact Cut.nil | apply Cut.hit | apply Cut.miss (by exact rfl))) ?_
  refine nl (h := ?_)
  refine q_seq (h := ?_)
  refine sq (h := ?_)
  refine sq (h := ?_)
  refine rg (h := ?_)
  refine WL.y (hy := (by first | exact ldA | exact ldEA)) (h := ?_)
  refine cl0 (hc := fun w hS => C_play_Check p hp w (h.old hS)) (h := ?_)
  refine WL.y (hy := asg) (h := ?_)
  refine WL.cut (by repeat (first | exact Cut.nil | apply Cut.hit | apply Cut.miss (by exact rfl))) ?_
  refine nl (h := ?_)
  refine q_seq (h := ?_)
  refine sq (h := ?_)
  refine rg (h := ?_)
  refine WL.y (hy := mv) (h := ?_)
  refine WL.y (hy := (Yd.fl (neq) (by rfl))) (h := ?_)
  refine nl (h := ?_)
  refine q_seq (h := ?_)
  refine cdF (h := ?_)
  refine skp (h := ?_)
  refine q_seq (h := ?_)
  refine sq (h := ?_)
  refine sq (h := ?_)
  refine rg (h := ?_)
  refine WL.y (hy := (by first | exact ldA | exact ldEA)) (h := ?_)
  refine WL.y (hy := mv) (h := ?_)
  refine cl0 (hc := fun w hS => C_play_isOrder p hp o hO oA n oc w (h.old hS) (hS.get (by repeat (first | exact Rds.ro | exact Rds.own | apply Rds.there)))) (h := ?_)
  refine WL.y (hy := (Yd.fl (notB) (by rfl))) (h := ?_)
  refine nl (h := ?_)
  refine q_seq (h := ?_)
  refine cdF (h := ?_)
  refine skp (h := ?_)
  refine q_seq (h := ?_)
  refine sq (h := ?_)
  refine rg (h := ?_)
  refine WL.y (hy := (by first | exact ldA | exact ldEA)) (h := ?_)
  refine WL.y (hy := mv) (h := ?_)
  refine cl (hc := fun w hS => C_play_times p hp o hO 29 inferInstance hiG (fun s w => C_play_longest s w) (hiG_rng hp) oA n oc w (h.old hS) (hS.get (by repeat (first | exact Rds.ro | exact Rds.own | apply Rds.there)))) (h := fun q1 _ => ?_)
  rw [← hc2]
  refine WL.y (hy := mv) (h := ?_)
  refine WL.y (hy := ex) (h := ?_)
  refine WL.y (hy := ex) (h := ?_)
  refine WL.y (hy := asg) (h := ?_)
  refine WL.y (hy := asg) (h := ?_)
  refine nl (h := ?_)
  refine q_seq (h := ?_)
  refine sq (h := ?_)
  refine sq (h := ?_)
  refine rg (h := ?_)
  refine WL.y (hy := mv) (h := ?_)
  refine WL.y (hy := lenS) (h := ?_)
  refine WL.y (hy := mv) (h := ?_)
  refine nl (h := ?_)
  refine q_seq (h := ?_)
  refine bk (h := ?_)
  refine lp (X := Nat) (I := fun k => k ≤ n) (le := fun k => [(2, .pointer (some ⟨b0, 0, none⟩)), (9, .slice (some ⟨q1.2, 0, none⟩) p.jobs.length p.jobs.length), (27, .slice oA n oc), (28, .int .i64 n), (29, .int .i64 k)]) (Le := fun _ => [.own (some ⟨q1.2, 0, none⟩) p.jobs.length 3 1 p.jobs.length (enI z2.es), .blk b0 25 p.cells, .ro p.dA 1 p.days.length (encDy p.days), .ro oA 3 n (encSe o)]) (μ := fun k => n - k) 0 (Nat.zero_le _) (by repeat (first | exact trivial | refine ⟨rfl, ?_⟩)) (by repeat (first | exact SubL.nil | (apply SubL.cons; (repeat (first | exact At.here | apply At.there))) | exact SubL.refl _ | apply SubL.skip)) (fun k hk => ?_)
  refine sq (h := ?_)
  refine rg (h := ?_)
  refine WL.y (hy := lss) (h := ?_)
  refine nl (h := ?_)
  refine q_seq (h := ?_)
  refine sq (h := ?_)
  refine cd (by exact rfl) (fun h2 => ?_) (fun h2 => ?_)
  · skip
    have hkn : k < n := by have := of_decide_eq_true h2; omega
    obtain ⟨s, hs⟩ : ∃ s, o[k]? = some s := ⟨_, List.getElem?_eq_getElem (by omega)⟩
    have hm := hO.at_ k s (by omega) hs
    have hmj := hm.job
    have hmd := hm.day
    have hmc := hm.court
    obtain ⟨d, hd⟩ : ∃ d, p.days[s.day.toNat]? = some d := ⟨_, List.getElem?_eq_getElem (by omega)⟩
    have hdm := List.mem_of_getElem? hd
    have hdl := (hp.dy _ d (by omega) hd).1
    obtain ⟨cs, hcs⟩ : ∃ c, d.sp[s.court.toNat]? = some c := ⟨_, List.getElem?_eq_getElem (by omega)⟩
    have hfit := hF k s d cs hs hd hcs
    rw [← hc2] at hfit
    have e1 := enI_at (getD_get (l := z2.es) (i := s.job.toNat) (by omega))
    refine skp (h := ?_)
    refine q_seq (h := ?_)
    refine sq (h := ?_)
    refine bk (h := ?_)
    refine sq (h := ?_)
    refine rg (h := ?_)
    refine WL.y (hy := ix (A := oA) (m := n)) (h := ?_)
    refine WL.y (hy := ldEW (A := oA) (hk := encSe_at hs)) (h := ?_)
    refine al (h := fun b1 => ?_)
    first | refine stA (h := ?_) | refine stEA (h := ?_)
    refine nl (h := ?_)
    refine q_seq (h := ?_)
    refine sq (h := ?_)
    refine WC.old (h.s d hdm) ?_
    refine rgD (by kernel_rfl) [(1000000, .own (some ⟨q1.2, 0, none⟩) p.jobs.length 3 1 p.jobs.length (enI z2.es)), (1000000, .blk b0 25 p.cells), (1000000, .blk b1 41 s.cells), (1000000, .ro p.dA 1 p.days.length (encDy p.days)), (1000000, .ro d.A 2 d.sp.length (encSn d.sp))] (by repeat (first | exact HS.nil | (apply HS.keep; (repeat (first | exact At.here | apply At.there))) | (apply HS.ro; (repeat (first | exact Rds.ro | exact Rds.own | apply Rds.there))))) (h := ?_)
    refine tk 0 (hy := mv) (h := ?_)
    refine tk 1 (hy := (by first | exact fa | exact faE)) (h := ?_)
    refine tk 2 (hy := (by first | exact ld | exact ldE)) (h := ?_)
    refine tk 3 (hy := ix (A := some ⟨q1.2, 0, none⟩) (m := p.jobs.length) (hb := by omega)) (h := ?_)
    refine tk 4 (hy := ldE (A := some ⟨q1.2, 0, none⟩) (hk := e1)) (h := ?_)
    refine tk 5 (hy := (by first | exact fa | exact faE)) (h := ?_)
    refine tk 6 (hy := (by first | exact ld | exact ldE)) (h := ?_)
    refine tk 7 (hy := (by first | exact fa | exact faE)) (h := ?_)
    refine tk 8 (hy := (by first | exact ld | exact ldE)) (h := ?_)
    refine tk 9 (hy := ix (A := p.dA) (m := p.days.length) (hb := by omega)) (h := ?_)
    refine tk 10 (hy := ldE (A := p.dA) (hk := encDy_at hd)) (h := ?_)
    refine tk 11 (hy := (by first | exact fa | exact faE)) (h := ?_)
    refine tk 12 (hy := (by first | exact ld | exact ldE)) (h := ?_)
    refine tk 13 (hy := ix (A := d.A) (m := d.sp.length) (hb := by omega)) (h := ?_)
    refine tk 14 (hy := (by first | exact fa | exact faE)) (h := ?_)
    refine tk 15 (hy := ldE (A := d.A) (hk := encSn_at hcs)) (h := ?_)
    refine tk 16 (hy := (Yd.fl (gtr) (by refine decide_eq_false ?_; omega))) (h := ?_)
    refine dn (h := ?_)
    refine q_seq (h := ?_)
    refine cdF (h := ?_)
    refine skp (h := ?_)
    refine q_blk_norm (h := ?_)
    refine q_seq (h := ?_)
    refine rg (h := ?_)
    refine WL.y (hy := addI) (h := ?_)
    refine WL.y (hy := mv) (h := ?_)
    refine nl (h := ?_)
    refine rn (x := k) (k + 1) hkn (by omega) (by repeat (first | exact trivial | refine ⟨rfl, ?_⟩)) (by repeat (first | exact SubL.nil | (apply SubL.cons; (repeat (first | exact At.here | apply At.there))) | exact SubL.refl _ | apply SubL.skip))
  · skip
    have hkn : k = n := by have := of_decide_eq_false h2; omega
    refine et (h := ?_)
    refine q_then_exit (h := ?_)
    refine q_then_exit (h := ?_)
    refine q_blk_hit (h := ?_)
    refine q_seq (h := ?_)
    refine sq (h := ?_)
    refine rg (h := ?_)
    refine WL.y (hy := asg) (h := ?_)
    refine WL.cut (by repeat (first | exact Cut.nil | apply Cut.hit | apply Cut.miss (by exact rfl))) ?_
    refine WL.y (hy := asg) (h := ?_)
    refine WL.cut (by repeat (first | exact Cut.nil | apply Cut.hit | apply Cut.miss (by exact rfl))) ?_
    refine WL.y (hy := asg) (h := ?_)
    refine WL.cut (by repeat (first | exact Cut.nil | apply Cut.hit | apply Cut.miss (by exact rfl))) ?_
    refine nl (h := ?_)
    refine q_seq (h := ?_)
    refine rtn (h := ?_)
    refine q_ret (hR := ?_)
    exact fun w hS => ⟨rfl, hS.sub .nil⟩
end Go.Proofs.Ytngelilffleimaa

namespace Go.Proofs.Ytngelilffleimaa
open Go Go.RowKit

def Pg.low (p : Pg) (s : Se) : Int := match p.days[s.day.toNat]? with
  | some d => (match d.sp[s.court.toNat]? with | some c => c.1 | none => 0)
  | none => 0
def begR1 (p : Pg) (es : List Int) (s t : Se) (a : Int) : Int :=
  bif decide (t.day = s.day) then
    (let a1 := bif decide (t.court = s.court) then max a (es.getD t.job.toNat 0) else a
     bif shB p s.job t.job then max a1 (es.getD t.job.toNat 0 + p.rest) else a1)
  else a
def begRk (p : Pg) (es : List Int) (s : Se) (pre : List Se) : Nat → Int
  | 0 => max (p.low s) (p.ear s.job)
  | k + 1 => match pre[k]? with
    | some t => begR1 p es s t (begRk p es s pre k)
    | none => begRk p es s pre k
def begR (p : Pg) (es : List Int) (s : Se) (pre : List Se) : Int := begRk p es s pre pre.length
theorem begR1_ge (p : Pg) (es : List Int) (s t : Se) (a : Int) : a ≤ begR1 p es s t a ∧ (t.day = s.day → (t.court = s.court → es.getD t.job.toNat 0 ≤ begR1 p es s t a) ∧ (shB p s.job t.job = true → es.getD t.job.toNat 0 + p.rest ≤ begR1 p es s t a)) := by
  unfold begR1
  by_cases h1 : t.day = s.day
  · rw [decide_eq_true h1, cond_true]
    by_cases h2 : t.court = s.court
    · rw [decide_eq_true h2, cond_true]
      cases shB p s.job t.job
      · simp only [cond_false]; refine ⟨by omega, fun _ => ⟨fun _ => by omega, fun h => by cases h⟩⟩
      · simp only [cond_true]; refine ⟨by omega, fun _ => ⟨fun _ => by omega, fun _ => by omega⟩⟩
    · rw [decide_eq_false h2, cond_false]
      cases shB p s.job t.job
      · simp only [cond_false]; refine ⟨by omega, fun _ => ⟨fun h => absurd h h2, fun h => by cases h⟩⟩
      · simp only [cond_true]; refine ⟨by omega, fun _ => ⟨fun h => absurd h h2, fun _ => by omega⟩⟩
  · rw [decide_eq_false h1, cond_false]
    exact ⟨Int.le_refl _, fun h => absurd h h1⟩
theorem begR1_le {p : Pg} {es : List Int} {s t : Se} {a B : Int} (ha : a ≤ B) (h : t.day = s.day → (t.court = s.court → es.getD t.job.toNat 0 ≤ B) ∧ (shB p s.job t.job = true → es.getD t.job.toNat 0 + p.rest ≤ B)) : begR1 p es s t a ≤ B := by
  unfold begR1
  by_cases h1 : t.day = s.day
  · obtain ⟨g1, g2⟩ := h h1
    rw [decide_eq_true h1, cond_true]
    by_cases h2 : t.court = s.court
    · have := g1 h2
      rw [decide_eq_true h2, cond_true]
      cases e : shB p s.job t.job
      · simp only [cond_false]; omega
      · have := g2 e
        simp only [cond_true]; omega
    · rw [decide_eq_false h2, cond_false]
      cases e : shB p s.job t.job
      · simp only [cond_false]; omega
      · have := g2 e
        simp only [cond_true]; omega
  · rw [decide_eq_false h1, cond_false]; exact ha
theorem begRk_ge (p : Pg) (es : List Int) (s : Se) (pre : List Se) : ∀ k, max (p.low s) (p.ear s.job) ≤ begRk p es s pre k ∧ ∀ i t, i < k → pre[i]? = some t → t.day = s.day → (t.court = s.court → es.getD t.job.toNat 0 ≤ begRk p es s pre k) ∧ (shB p s.job t.job = true → es.getD t.job.toNat 0 + p.rest ≤ begRk p es s pre k)
  | 0 => ⟨Int.le_refl _, fun i t hi => absurd hi (Nat.not_lt_zero _)⟩
  | k + 1 => by
    obtain ⟨h1, h2⟩ := begRk_ge p es s pre k
    rw [begRk]
    cases e : pre[k]? with
    | none =>
      exact ⟨h1, fun i t hi ht => by
        by_cases g : i = k
        · rw [g, e] at ht; cases ht
        · exact h2 i t (by omega) ht⟩
    | some u =>
      have h3 := begR1_ge p es s u (begRk p es s pre k)
      refine ⟨by have := h3.1; show _ ≤ begR1 p es s u _; omega, fun i t hi ht hd => ?_⟩
      by_cases g : i = k
      · rw [g, e] at ht; cases ht; exact h3.2 hd
      · have h4 := h2 i t (by omega) ht hd
        exact ⟨fun h => by have := h4.1 h; have := h3.1; show _ ≤ begR1 p es s u _; omega, fun h => by have := h4.2 h; have := h3.1; show _ ≤ begR1 p es s u _; omega⟩
theorem begR_ge (p : Pg) (es : List Int) (s : Se) (pre : List Se) : max (p.low s) (p.ear s.job) ≤ begR p es s pre ∧ ∀ t ∈ pre, t.day = s.day → (t.court = s.court → es.getD t.job.toNat 0 ≤ begR p es s pre) ∧ (shB p s.job t.job = true → es.getD t.job.toNat 0 + p.rest ≤ begR p es s pre) := by
  obtain ⟨h1, h2⟩ := begRk_ge p es s pre pre.length
  refine ⟨h1, fun t ht => ?_⟩
  obtain ⟨i, hi, e⟩ := List.mem_iff_getElem.1 ht
  exact h2 i t hi (by rw [List.getElem?_eq_getElem hi, e])
theorem begR_le {p : Pg} {es : List Int} {s : Se} {pre : List Se} {B : Int} (h0 : max (p.low s) (p.ear s.job) ≤ B) (h : ∀ t ∈ pre, t.day = s.day → (t.court = s.court → es.getD t.job.toNat 0 ≤ B) ∧ (shB p s.job t.job = true → es.getD t.job.toNat 0 + p.rest ≤ B)) : begR p es s pre ≤ B := by
  have : ∀ k, begRk p es s pre k ≤ B := fun k => by
    induction k with
    | zero => exact h0
    | succ k ih =>
      rw [begRk]
      cases e : pre[k]? with
      | none => exact ih
      | some t => exact begR1_le ih (h t (List.mem_of_getElem? e))
  exact this _
theorem begTil_ge (p : Pg) (d : DS) (s : Se) (ear : Int) : ∀ k, max (d.fr s.court.toNat) ear ≤ begTil p d s ear k ∧ ∀ i, i < k → 0 < d.en i → shB p s.job (i : Int) = true → d.en i + p.rest ≤ begTil p d s ear k
  | 0 => ⟨Int.le_refl _, fun i hi => absurd hi (Nat.not_lt_zero _)⟩
  | k + 1 => by
    obtain ⟨h1, h2⟩ := begTil_ge p d s ear k
    have hm : begTil p d s ear k ≤ begTil p d s ear (k + 1) ∧ (0 < d.en k → shB p s.job (k : Int) = true → d.en k + p.rest ≤ begTil p d s ear (k + 1)) := by
      rw [begTil, begK]
      cases e : decide (0 < d.en k) && shB p s.job k
      · refine ⟨Int.le_refl _, fun g1 g2 => ?_⟩
        rw [decide_eq_true g1, g2] at e; cases e
      · simp only [cond_true]; exact ⟨by omega, fun _ _ => by omega⟩
    refine ⟨by omega, fun i hi g1 g2 => ?_⟩
    by_cases g : i = k
    · subst g; exact hm.2 g1 g2
    · have := h2 i (by omega) g1 g2; omega
theorem begTil_le {p : Pg} {d : DS} {s : Se} {ear B : Int} (h0 : max (d.fr s.court.toNat) ear ≤ B) (h : ∀ i, 0 < d.en i → shB p s.job (i : Int) = true → d.en i + p.rest ≤ B) : ∀ k, begTil p d s ear k ≤ B
  | 0 => h0
  | k + 1 => by
    have ih := begTil_le h0 h k
    rw [begTil, begK]
    cases e : decide (0 < d.en k) && shB p s.job k
    · exact ih
    · rw [Bool.and_eq_true, decide_eq_true_eq] at e
      have := h k e.1 e.2
      simp only [cond_true]; omega
theorem frTo_at {l : List Sn} {i : Nat} {c : Sn} (h : l[i]? = some c) : ∀ k, i < k → frTo l k i = c.1
  | 0, hk => absurd hk (Nat.not_lt_zero _)
  | k + 1, hk => by
    rw [frTo]
    by_cases e : i = k
    · subst e; rw [h]; exact upF_same _ _ _
    · cases g : l[k]? with
      | none => exact frTo_at h k (by omega)
      | some s => show upF (frTo l k) k s.1 i = c.1; unfold upF; rw [if_neg e]; exact frTo_at h k (by omega)
theorem open_low {p : Pg} (hp : POk p) {l : List Se} {s : Se} (hm : MayC p l s) : (openD p s.day).fr s.court.toNat = p.low s := by
  have hd := hm.day
  have hc := hm.court
  obtain ⟨d, hd1⟩ : ∃ d, p.days[s.day.toNat]? = some d := ⟨_, List.getElem?_eq_getElem (by omega)⟩
  have h1 := (hp.dy _ d (by omega) hd1).1
  obtain ⟨c, hc1⟩ : ∃ c, d.sp[s.court.toNat]? = some c := ⟨_, List.getElem?_eq_getElem (by omega)⟩
  unfold openD Pg.low
  rw [hd1]
  dsimp only
  rw [hc1]
  exact frTo_at hc1 _ (by omega)
end Go.Proofs.Ytngelilffleimaa

namespace Go.Proofs.Ytngelilffleimaa
open Go Go.RowKit

def runRk (p : Pg) (tk : List Int) (o : List Se) : Nat → List Int × List Int
  | 0 => (List.replicate p.jobs.length 0, List.replicate p.jobs.length 0)
  | k + 1 => match o[k]? with
    | some s => ((runRk p tk o k).1.set s.job.toNat (begR p (runRk p tk o k).2 s (o.take k)), (runRk p tk o k).2.set s.job.toNat (begR p (runRk p tk o k).2 s (o.take k) + tk.getD s.job.toNat 0))
    | none => runRk p tk o k
theorem runRk_succ {p : Pg} {tk : List Int} {o : List Se} {k : Nat} {s : Se} (h : o[k]? = some s) : runRk p tk o (k + 1) = ((runRk p tk o k).1.set s.job.toNat (begR p (runRk p tk o k).2 s (o.take k)), (runRk p tk o k).2.set s.job.toNat (begR p (runRk p tk o k).2 s (o.take k) + tk.getD s.job.toNat 0)) := by rw [runRk, h]
theorem runRk_len (p : Pg) (tk : List Int) (o : List Se) : ∀ k, (runRk p tk o k).1.length = p.jobs.length ∧ (runRk p tk o k).2.length = p.jobs.length
  | 0 => ⟨List.length_replicate, List.length_replicate⟩
  | k + 1 => by
    have ih := runRk_len p tk o k
    rw [runRk]
    cases o[k]? with
    | none => exact ih
    | some s => exact ⟨by rw [List.length_set]; exact ih.1, by rw [List.length_set]; exact ih.2⟩
theorem gset_eq {l : List Int} {i : Nat} {v : Int} (h : i < l.length) : (l.set i v).getD i 0 = v := by rw [List.getD_eq_getElem?_getD, List.getElem?_set_self h]; rfl
theorem gset_ne {l : List Int} {i j : Nat} {v : Int} (h : i ≠ j) : (l.set i v).getD j 0 = l.getD j 0 := by rw [List.getD_eq_getElem?_getD, List.getElem?_set_ne h, ← List.getD_eq_getElem?_getD]
theorem toNat_inj {a b : Int} (ha : 0 ≤ a) (hb : 0 ≤ b) (h : a.toNat = b.toNat) : a = b := by omega
theorem take_snoc {α : Type} {o : List α} {k : Nat} {s : α} (h : o[k]? = some s) {u : α} : u ∈ o.take (k + 1) ↔ u ∈ o.take k ∨ u = s := by
  rw [List.take_add_one, h, List.mem_append]; simp
structure LoV (p : Pg) (o : List Se) (k : Nat) (t : TS) (e : List Int) : Prop where
  le : ∀ j : Nat, t.es.getD j 0 ≤ e.getD j 0
  fr : ∀ c : Nat, t.d.fr c ≤ (openD p t.d.num).fr c ∨ ∃ u ∈ o.take k, u.day = t.d.num ∧ u.court.toNat = c ∧ t.d.fr c ≤ e.getD u.job.toNat 0
  en : ∀ i : Nat, 0 < t.d.en i → ∃ u ∈ o.take k, u.day = t.d.num ∧ u.job.toNat = i ∧ t.d.en i ≤ e.getD i 0
theorem LoV.start (p : Pg) (o : List Se) : LoV p o 0 (runT p loG []) (List.replicate p.jobs.length 0) :=
  ⟨fun j => Int.le_refl _, fun c => .inl (Int.le_refl _), fun i hi => absurd hi (by show ¬ (0 : Int) < 0; omega)⟩
section
variable {p : Pg} {o : List Se} {k : Nat} {t : TS} {e : List Int} {s : Se} {j : Jb}
theorem day_D (p : Pg) (t : TS) (s : Se) : ((bif decide (s.day = t.d.num) then t.d else openD p s.day) = t.d ∧ s.day = t.d.num) ∨ ((bif decide (s.day = t.d.num) then t.d else openD p s.day) = openD p s.day ∧ ¬ s.day = t.d.num) := by
  by_cases h : s.day = t.d.num
  · left; rw [decide_eq_true h]; exact ⟨rfl, h⟩
  · right; rw [decide_eq_false h]; exact ⟨rfl, h⟩
theorem LoV.next (hp : POk p) (hO : OOk p o) (h : LoV p o k t e) (hs : o[k]? = some s) (hj : p.jobs[s.job.toNat]? = some j) (hl : t.es.length = p.jobs.length) (hle : e.length = p.jobs.length) {x : Int} (hx : j.len.1 ≤ x) :
    LoV p o (k + 1) (stepT p loG t s) (e.set s.job.toNat (begR p e s (o.take k) + x)) := by
  have hk : k < o.length := (List.getElem?_eq_some_iff.1 hs).1
  have hm := hO.at_ k s hk hs
  have hmj := hm.job
  have hmc := hm.court
  have hear : p.ear s.job = j.ear := by unfold Pg.ear; rw [hj]
  have hlen : p.len loG s.job = j.len.1 := by unfold Pg.len; rw [hj]; rfl
  obtain ⟨r1, r2⟩ := begR_ge p e s (o.take k)
  have hpre : ∀ u ∈ o.take k, 0 ≤ u.job ∧ 0 ≤ u.court ∧ u.job ≠ s.job := fun u hu => by
    obtain ⟨l, hu2⟩ := hO.job (List.mem_of_mem_take hu)
    exact ⟨hu2.job.1, hu2.court.1, hm.new u hu⟩
  obtain ⟨D, hD⟩ : ∃ D, D = (bif decide (s.day = t.d.num) then t.d else openD p s.day) := ⟨_, rfl⟩
  have hst : stepT p loG t s = ⟨playD p D s j.len.1, t.bs.set s.job.toNat (begV p D s), t.es.set s.job.toNat (begV p D s + j.len.1)⟩ := by rw [hD, ← hlen]; rfl
  have hnum : D.num = s.day := by
    rcases day_D p t s with ⟨g1, g2⟩ | ⟨g1, g2⟩
    · rw [hD, g1, g2]
    · rw [hD, g1]; rfl
  have hb : begV p D s ≤ begR p e s (o.take k) := by
    unfold begV
    refine begTil_le ?_ (fun i hi hsh => ?_) 6
    · rcases day_D p t s with ⟨g1, g2⟩ | ⟨g1, g2⟩
      · rw [hD, g1]
        rcases h.fr s.court.toNat with hf | ⟨u, hu, hu1, hu2, hu3⟩
        · rw [← g2, open_low hp hm] at hf; omega
        · have := (r2 u hu (hu1.trans g2.symm)).1 (toNat_inj (hpre u hu).2.1 hmc.1 hu2)
          omega
      · rw [hD, g1, open_low hp hm]; omega
    · rcases day_D p t s with ⟨g1, g2⟩ | ⟨g1, g2⟩
      · rw [hD, g1] at hi ⊢
        obtain ⟨u, hu, hu1, hu2, hu3⟩ := h.en i hi
        have hui : (i : Int) = u.job := by have := (hpre u hu).1; omega
        rw [hui] at hsh
        have := (r2 u hu (hu1.trans g2.symm)).2 hsh
        rw [hu2] at this
        omega
      · rw [hD, g1] at hi; exact absurd hi (by show ¬ (0 : Int) < 0; omega)
  rw [hst]
  refine ⟨fun i => ?_, fun c => ?_, fun i hi => ?_⟩
  · by_cases g : s.job.toNat = i
    · subst g; show (t.es.set _ _).getD _ 0 ≤ _; rw [gset_eq (by omega), gset_eq (by omega)]; omega
    · show (t.es.set _ _).getD _ 0 ≤ _; rw [gset_ne g, gset_ne g]; exact h.le i
  · show upF D.fr s.court.toNat (begV p D s + j.len.1) c ≤ (openD p D.num).fr c ∨ ∃ u ∈ o.take (k + 1), u.day = D.num ∧ u.court.toNat = c ∧ upF D.fr s.court.toNat (begV p D s + j.len.1) c ≤ _
    by_cases g : c = s.court.toNat
    · right
      refine ⟨s, (take_snoc hs).2 (.inr rfl), hnum.symm, g.symm, ?_⟩
      rw [g, upF_same, gset_eq (by omega)]; omega
    · have e1 : upF D.fr s.court.toNat (begV p D s + j.len.1) c = D.fr c := by unfold upF; rw [if_neg g]
      rw [e1]
      rcases day_D p t s with ⟨g1, g2⟩ | ⟨g1, g2⟩
      · rw [hD, g1]
        rcases h.fr c with hf | ⟨u, hu, hu1, hu2, hu3⟩
        · exact .inl hf
        · refine .inr ⟨u, (take_snoc hs).2 (.inl hu), hu1, hu2, ?_⟩
          rw [gset_ne (fun g3 => (hpre u hu).2.2 (toNat_inj (hpre u hu).1 hmj.1 g3.symm))]; exact hu3
      · left; rw [hD, g1]; exact Int.le_refl _
  · have hi2 : 0 < upF D.en s.job.toNat (begV p D s + j.len.1) i := hi
    show ∃ u ∈ o.take (k + 1), u.day = D.num ∧ u.job.toNat = i ∧ upF D.en s.job.toNat (begV p D s + j.len.1) i ≤ _
    by_cases g : i = s.job.toNat
    · refine ⟨s, (take_snoc hs).2 (.inr rfl), hnum.symm, g.symm, ?_⟩
      rw [g, upF_same, gset_eq (by omega)]; omega
    · have e1 : upF D.en s.job.toNat (begV p D s + j.len.1) i = D.en i := by unfold upF; rw [if_neg g]
      rw [e1] at hi2 ⊢
      rcases day_D p t s with ⟨g1, g2⟩ | ⟨g1, g2⟩
      · rw [hD, g1] at hi2 ⊢
        obtain ⟨u, hu, hu1, hu2, hu3⟩ := h.en i hi2
        refine ⟨u, (take_snoc hs).2 (.inl hu), hu1, hu2, ?_⟩
        rw [gset_ne (fun g3 => g g3.symm)]; exact hu3
      · rw [hD, g1] at hi2; exact absurd hi2 (by show ¬ (0 : Int) < 0; omega)
structure HiV (p : Pg) (o : List Se) (k : Nat) (t : TS) (e : List Int) : Prop where
  ge : ∀ j : Nat, e.getD j 0 ≤ t.es.getD j 0
  fr : ∀ u ∈ o.take k, u.day = t.d.num → t.es.getD u.job.toNat 0 ≤ t.d.fr u.court.toNat
  lw : ∀ l u, MayC p l u → u.day = t.d.num → p.low u ≤ t.d.fr u.court.toNat
  en : ∀ u ∈ o.take k, u.day = t.d.num → t.d.en u.job.toNat = t.es.getD u.job.toNat 0
  dy : ∀ u ∈ o.take k, u.day ≤ t.d.num
  nm : t.d.num = 0 ∨ ∃ u ∈ o.take k, u.day = t.d.num
  ep : ∀ u ∈ o.take k, 0 < t.es.getD u.job.toNat 0
theorem HiV.start (hp : POk p) (o : List Se) : HiV p o 0 (runT p hiG []) (List.replicate p.jobs.length 0) :=
  ⟨fun j => Int.le_refl _, fun u hu => (by cases hu), fun l u hm hd => by have := open_low hp hm; rw [hd] at this; exact Int.le_of_eq this.symm, fun u hu => (by cases hu), fun u hu => (by cases hu), .inl rfl, fun u hu => (by cases hu)⟩
theorem HiV.next (hp : POk p) (hO : OOk p o) (h : HiV p o k t e) (hT : TsI p k t) (hs : o[k]? = some s) (hj : p.jobs[s.job.toNat]? = some j) (hle : e.length = p.jobs.length) {x : Int} (hx : x ≤ j.len.2) :
    HiV p o (k + 1) (stepT p hiG t s) (e.set s.job.toNat (begR p e s (o.take k) + x)) := by
  have hk : k < o.length := (List.getElem?_eq_some_iff.1 hs).1
  have hm := hO.at_ k s hk hs
  have hmj := hm.job
  have hmc := hm.court
  have hmd := hm.day
  have hnj := hp.nj
  have hl := hT.le
  have hjo := hp.jb _ j (by omega) hj
  have hjl := hjo.len
  have hear : p.ear s.job = j.ear := by unfold Pg.ear; rw [hj]
  have hlen : p.len hiG s.job = j.len.2 := by unfold Pg.len; rw [hj]; rfl
  have hpre : ∀ u ∈ o.take k, (0 ≤ u.job ∧ u.job < p.jobs.length) ∧ 0 ≤ u.court ∧ u.job ≠ s.job := fun u hu => by
    obtain ⟨l, hu2⟩ := hO.job (List.mem_of_mem_take hu)
    exact ⟨hu2.job, hu2.court.1, hm.new u hu⟩
  obtain ⟨D, hD⟩ : ∃ D, D = (bif decide (s.day = t.d.num) then t.d else openD p s.day) := ⟨_, rfl⟩
  have hst : stepT p hiG t s = ⟨playD p D s j.len.2, t.bs.set s.job.toNat (begV p D s), t.es.set s.job.toNat (begV p D s + j.len.2)⟩ := by rw [hD, ← hlen]; rfl
  have hnum : D.num = s.day := by
    rcases day_D p t s with ⟨g1, g2⟩ | ⟨g1, g2⟩
    · rw [hD, g1, g2]
    · rw [hD, g1]; rfl
  have hold : ∀ u ∈ o.take k, u.day = s.day → D = t.d ∧ s.day = t.d.num := fun u hu hd => by
    rcases day_D p t s with ⟨g1, g2⟩ | ⟨g1, g2⟩
    · exact ⟨by rw [hD, g1], g2⟩
    · exfalso
      have h1 := h.dy u hu
      rcases h.nm with h2 | ⟨u2, h2, h3⟩
      · exact g2 (by omega)
      · have := hm.days u2 h2
        exact g2 (by omega)
  obtain ⟨b1, b2⟩ := begTil_ge p D s (p.ear s.job) 6
  have hbv : begV p D s = begTil p D s (p.ear s.job) 6 := rfl
  rw [← hbv] at b1 b2
  have hlow : ∀ l u, MayC p l u → u.day = s.day → p.low u ≤ D.fr u.court.toNat := fun l u hu hd => by
    rcases day_D p t s with ⟨g1, g2⟩ | ⟨g1, g2⟩
    · rw [hD, g1]; exact h.lw l u hu (hd.trans g2)
    · rw [hD, g1]; have := open_low hp hu; rw [hd] at this; exact Int.le_of_eq this.symm
  have hb : begR p e s (o.take k) ≤ begV p D s := by
    refine begR_le (by have := hlow _ s hm rfl; omega) fun u hu hd => ?_
    obtain ⟨g1, g2⟩ := hold u hu hd
    have hge := h.ge u.job.toNat
    refine ⟨fun hc => ?_, fun hsh => ?_⟩
    · have := h.fr u hu (hd.trans g2)
      rw [hc] at this
      rw [g1] at b1
      rw [g1]
      omega
    · have h1 := h.en u hu (hd.trans g2)
      have h2 := h.ep u hu
      have hj2 := (hpre u hu).1
      have := b2 u.job.toNat (by omega) (by rw [g1, h1]; exact h2) (by rw [show ((u.job.toNat : Nat) : Int) = u.job by omega]; exact hsh)
      rw [g1, h1] at this
      rw [g1]
      omega
  have hb0 : 0 ≤ begV p D s := by have := hjo.ear; rw [hear] at b1; omega
  rw [hst]
  have hne : ∀ u ∈ o.take k, s.job.toNat ≠ u.job.toNat := fun u hu g3 => (hpre u hu).2.2 (toNat_inj (hpre u hu).1.1 hmj.1 g3.symm)
  refine ⟨fun i => ?_, fun u hu hd => ?_, fun l u hu hd => ?_, fun u hu hd => ?_, fun u hu => ?_, .inr ⟨s, (take_snoc hs).2 (.inr rfl), hnum.symm⟩, fun u hu => ?_⟩
  · by_cases g : s.job.toNat = i
    · subst g; show _ ≤ (t.es.set _ _).getD _ 0; rw [gset_eq (by omega), gset_eq (by omega)]; omega
    · show _ ≤ (t.es.set _ _).getD _ 0; rw [gset_ne g, gset_ne g]; exact h.ge i
  · have hd2 : u.day = s.day := hd.trans hnum
    show (t.es.set _ _).getD _ 0 ≤ upF D.fr s.court.toNat (begV p D s + j.len.2) u.court.toNat
    rcases (take_snoc hs).1 hu with hu | rfl
    · obtain ⟨g1, g2⟩ := hold u hu hd2
      have h3 := h.fr u hu (hd2.trans g2)
      rw [gset_ne (hne u hu)]
      unfold upF
      by_cases g : u.court.toNat = s.court.toNat
      · rw [if_pos g]; rw [g, ← g1] at h3; omega
      · rw [if_neg g, g1]; exact h3
    · rw [upF_same, gset_eq (by omega)]; omega
  · have hd2 : u.day = s.day := hd.trans hnum
    have h3 := hlow l u hu hd2
    show _ ≤ upF D.fr s.court.toNat (begV p D s + j.len.2) u.court.toNat
    unfold upF
    by_cases g : u.court.toNat = s.court.toNat
    · rw [if_pos g]; rw [g] at h3; omega
    · rw [if_neg g]; exact h3
  · have hd2 : u.day = s.day := hd.trans hnum
    show upF D.en s.job.toNat (begV p D s + j.len.2) u.job.toNat = (t.es.set _ _).getD _ 0
    rcases (take_snoc hs).1 hu with hu | rfl
    · obtain ⟨g1, g2⟩ := hold u hu hd2
      rw [gset_ne (hne u hu)]
      unfold upF
      rw [if_neg (fun g3 => hne u hu g3.symm), g1]
      exact h.en u hu (hd2.trans g2)
    · rw [upF_same, gset_eq (by omega)]
  · show u.day ≤ D.num
    rw [hnum]
    rcases (take_snoc hs).1 hu with hu | rfl
    · exact hm.days u hu
    · exact Int.le_refl _
  · show 0 < (t.es.set _ _).getD _ 0
    rcases (take_snoc hs).1 hu with hu | rfl
    · rw [gset_ne (hne u hu)]; exact h.ep u hu
    · rw [gset_eq (by omega)]; omega
end
def Taken (p : Pg) (tk : List Int) : Prop := ∀ (i : Nat) (j : Jb), p.jobs[i]? = some j → j.len.1 ≤ tk.getD i 0 ∧ tk.getD i 0 ≤ j.len.2
theorem real_between {p : Pg} (hp : POk p) {o : List Se} (hO : OOk p o) {tk : List Int} (ht : Taken p tk) : ∀ k, k ≤ o.length → LoV p o k (runT p loG (o.take k)) (runRk p tk o k).2 ∧ HiV p o k (runT p hiG (o.take k)) (runRk p tk o k).2
  | 0, _ => ⟨LoV.start p o, HiV.start hp o⟩
  | k + 1, hk => by
    obtain ⟨h1, h2⟩ := real_between hp hO ht k (by omega)
    obtain ⟨s, hs⟩ : ∃ s, o[k]? = some s := ⟨_, List.getElem?_eq_getElem (by omega)⟩
    have hm := hO.at_ k s (by omega) hs
    have hmj := hm.job
    obtain ⟨j, hj⟩ : ∃ j, p.jobs[s.job.toNat]? = some j := ⟨_, List.getElem?_eq_getElem (by omega)⟩
    have hx := ht _ j hj
    have hr := (runRk_len p tk o k).2
    rw [runT_succ hs, runT_succ hs, runRk_succ hs]
    exact ⟨h1.next hp hO hs hj (runT_inv hp hO (loG_rng hp) k (by omega)).le hr hx.1, h2.next hp hO (runT_inv hp hO (hiG_rng hp) k (by omega)) hs hj hr hx.2⟩
theorem real_ends {p : Pg} (hp : POk p) {o : List Se} (hO : OOk p o) {tk : List Int} (ht : Taken p tk) (j : Nat) : (runT p loG o).es.getD j 0 ≤ (runRk p tk o o.length).2.getD j 0 ∧ (runRk p tk o o.length).2.getD j 0 ≤ (runT p hiG o).es.getD j 0 := by
  obtain ⟨h1, h2⟩ := real_between hp hO ht o.length (Nat.le_refl _)
  rw [List.take_length] at h1 h2
  exact ⟨h1.le j, h2.ge j⟩
end Go.Proofs.Ytngelilffleimaa

namespace Go.Proofs.Ytngelilffleimaa
open Go Go.RowKit

theorem C_ref8_within (n lo hi : Int) (w : World) : C0 Try.prog 17 [.int .i64 n, .int .i64 lo, .int .i64 hi] w (.bool (win n lo hi)) := by
  refine ⟨en Try.func17 Try.ntmps17 (St.init w) (h := fun F => ?_)⟩
  refine sq (h := ?_)
  refine rg (h := ?_)
  refine WL.y (hy := asg) (h := ?_)
  refine nl (h := ?_)
  refine q_seq (h := ?_)
  refine sq (h := ?_)
  refine rg (h := ?_)
  refine WL.y (hy := mv) (h := ?_)
  refine WL.y (hy := mv) (h := ?_)
  refine WL.y (hy := geq) (h := ?_)
  refine WL.y (hy := mv) (h := ?_)
  apply brAnd 4 10 14 (by exact rfl)
  · intro hb0
    refine un (h := ?_)
    refine WL.y (hy := mv) (h := ?_)
    refine un (h := ?_)
    refine WL.y (hy := mv) (h := ?_)
    refine un (h := ?_)
    refine WL.y (hy := leq) (h := ?_)
    refine WL.y (hy := (by first | exact pkT | exact pkF)) (h := ?_)
    exact mg (by repeat (first | exact trivial | refine ⟨rfl, ?_⟩ | refine ⟨by rw [hb0]; rfl, ?_⟩)) (by repeat (first | exact SubL.nil | (apply SubL.cons; (repeat (first | exact At.here | apply At.there))) | exact SubL.refl _ | apply SubL.skip))
  · intro hb0
    repeat (first | refine un (h := ?_) | refine sk (h := ?_) | refine WL.y (hy := pkF) (h := ?_) | refine WL.y (hy := pkT) (h := ?_))
    exact mg (by repeat (first | exact trivial | refine ⟨rfl, ?_⟩ | refine ⟨by rw [hb0]; rfl, ?_⟩)) (by repeat (first | exact SubL.nil | (apply SubL.cons; (repeat (first | exact At.here | apply At.there))) | exact SubL.refl _ | apply SubL.skip))
  refine WL.y (hy := asg) (h := ?_)
  refine nl (h := ?_)
  refine q_seq (h := ?_)
  refine rtn (h := ?_)
  refine q_ret (hR := ?_)
  exact fun w hS => ⟨rfl, hS.sub (by repeat (first | exact SubL.nil | (apply SubL.cons; (repeat (first | exact At.here | apply At.there))) | exact SubL.refl _ | apply SubL.skip))⟩
theorem win_no {n lo hi : Int} (h : (!win n lo hi) = false) : lo ≤ n ∧ n ≤ hi := win_iff.1 (by rwa [Bool.not_eq_false'] at h)
def lenB8 (s : Sn) : Bool := (decide (1 ≤ s.1) && decide (s.1 ≤ s.2)) && decide (s.2 ≤ 600)
theorem C_ref8_isLength (s : Sn) (w : World) : C0 Try.prog 38 [.agg #[.int .i64 s.1, .int .i64 s.2]] w (.bool (lenB8 s)) := by
  refine ⟨en Try.func38 Try.ntmps38 (St.init w) (h := fun F => ?_)⟩
  refine sq (h := ?_)
  refine rg (h := ?_)
  refine bxA (h := fun b0 => ?_)
  refine WL.y (hy := asg) (h := ?_)
  refine nl (h := ?_)
  refine q_seq (h := ?_)
  refine sq (h := ?_)
  refine rg (h := ?_)
  refine WL.y (hy := (by first | exact fa | exact faE)) (h := ?_)
  refine WL.y (hy := (by first | exact ld | exact ldE)) (h := ?_)
  refine WL.y (hy := geq) (h := ?_)
  refine WL.y (hy := mv) (h := ?_)
  apply brAnd 6 6 12 (by exact rfl)
  · intro hb0
    refine un (h := ?_)
    refine WL.y (hy := (by first | exact fa | exact faE)) (h := ?_)
    refine un (h := ?_)
    refine WL.y (hy := (by first | exact ld | exact ldE)) (h := ?_)
    refine un (h := ?_)
    refine WL.y (hy := (by first | exact fa | exact faE)) (h := ?_)
    refine un (h := ?_)
    refine WL.y (hy := (by first | exact ld | exact ldE)) (h := ?_)
    refine un (h := ?_)
    refine WL.y (hy := leq) (h := ?_)
    refine WL.y (hy := (by first | exact pkT | exact pkF)) (h := ?_)
    exact mg (by repeat (first | exact trivial | refine ⟨rfl, ?_⟩ | refine ⟨by rw [hb0]; rfl, ?_⟩)) (by repeat (first | exact SubL.nil | (apply SubL.cons; (repeat (first | exact At.here | apply At.there))) | exact SubL.refl _ | apply SubL.skip))
  · intro hb0
    repeat (first | refine un (h := ?_) | refine sk (h := ?_) | refine WL.y (hy := pkF) (h := ?_) | refine WL.y (hy := pkT) (h := ?_))
    exact mg (by repeat (first | exact trivial | refine ⟨rfl, ?_⟩ | refine ⟨by rw [hb0]; rfl, ?_⟩)) (by repeat (first | exact SubL.nil | (apply SubL.cons; (repeat (first | exact At.here | apply At.there))) | exact SubL.refl _ | apply SubL.skip))
  refine WL.y (hy := mv) (h := ?_)
  apply brAnd 4 13 17 (by exact rfl)
  · intro hb1
    refine un (h := ?_)
    refine WL.y (hy := (by first | exact fa | exact faE)) (h := ?_)
    refine un (h := ?_)
    refine WL.y (hy := (by first | exact ld | exact ldE)) (h := ?_)
    refine un (h := ?_)
    refine WL.y (hy := leq) (h := ?_)
    refine WL.y (hy := (by first | exact pkT | exact pkF)) (h := ?_)
    exact mg (by repeat (first | exact trivial | refine ⟨rfl, ?_⟩ | refine ⟨by rw [hb1]; rfl, ?_⟩)) (by repeat (first | exact SubL.nil | (apply SubL.cons; (repeat (first | exact At.here | apply At.there))) | exact SubL.refl _ | apply SubL.skip))
  · intro hb1
    repeat (first | refine un (h := ?_) | refine sk (h := ?_) | refine WL.y (hy := pkF) (h := ?_) | refine WL.y (hy := pkT) (h := ?_))
    exact mg (by repeat (first | exact trivial | refine ⟨rfl, ?_⟩ | refine ⟨by rw [hb1]; rfl, ?_⟩)) (by repeat (first | exact SubL.nil | (apply SubL.cons; (repeat (first | exact At.here | apply At.there))) | exact SubL.refl _ | apply SubL.skip))
  refine WL.y (hy := asg) (h := ?_)
  refine nl (h := ?_)
  refine q_seq (h := ?_)
  refine rtn (h := ?_)
  refine q_ret (hR := ?_)
  exact fun w hS => ⟨rfl, hS.sub (by repeat (first | exact SubL.nil | (apply SubL.cons; (repeat (first | exact At.here | apply At.there))) | exact SubL.refl _ | apply SubL.skip))⟩
set_option maxRecDepth 100000 in
set_option maxHeartbeats 1000000 in
theorem C_ref8_isJob (j : Jb) (i m : Nat) (hi : i ≤ 1000000) (hm : m ≤ 1000000) (hfn : j.af.length ≤ 9223372036854775807) (hwn : j.wi.length ≤ 9223372036854775807) (w : World) (hf : Rd w j.fA 1 j.af.length (enI j.af)) (hw : Rd w j.wA 1 j.wi.length (enI j.wi)) :
    CR Try.prog 18 [.agg j.cells.toArray, .int .i64 i, .int .i64 m] w (fun b : Bool => b = true → JOk m i j) (fun b => .bool b) (fun _ => []) := by
  refine ⟨en Try.func18 Try.ntmps18 (((St.init w).share (e := .ro j.fA 1 j.af.length (enI j.af)) hf rfl rfl rfl).share (e := .ro j.wA 1 j.wi.length (enI j.wi)) hw rfl rfl rfl) (h := fun F => ?_)⟩
  refine sq (h := ?_)
  refine rg (h := ?_)
  refine bxA (h := fun b0 => ?_)
  refine WL.y (hy := asg) (h := ?_)
  refine WL.cut (by repeat (first | exact Cut.nil | apply Cut.hit | apply Cut.miss (by exact rfl))) ?_
  refine nl (h := ?_)
  refine q_seq (h := ?_)
  refine sq (h := ?_)
  refine sq (h := ?_)
  refine rg (h := ?_)
  refine WL.y (hy := (by first | exact fa | exact faE)) (h := ?_)
  refine WL.y (hy := (by first | exact ldA | exact ldEA)) (h := ?_)
  refine cl0 (hc := fun w hS => C_ref8_isLength j.len w) (h := ?_)
  refine WL.y (hy := notB) (h := ?_)
  refine WL.y (hy := mv) (h := ?_)
  apply brOr 5 13 18 (by exact rfl)
  · intro hb0
    refine un (h := ?_)
    refine WL.y (hy := (by first | exact fa | exact faE)) (h := ?_)
    refine un (h := ?_)
    refine WL.y (hy := (by first | exact ld | exact ldE)) (h := ?_)
    refine un (h := ?_)
    refine cl0 (hc := fun w hS => C_ref8_within j.due 0 2 w) (h := ?_)
    refine un (h := ?_)
    refine WL.y (hy := notB) (h := ?_)
    refine WL.y (hy := (by first | exact pkT | exact pkF)) (h := ?_)
    exact mg (by repeat (first | exact trivial | refine ⟨rfl, ?_⟩ | refine ⟨by rw [hb0]; rfl, ?_⟩)) (by repeat (first | exact SubL.nil | (apply SubL.cons; (repeat (first | exact At.here | apply At.there))) | exact SubL.refl _ | apply SubL.skip))
  · intro hb0
    repeat (first | refine un (h := ?_) | refine sk (h := ?_) | refine WL.y (hy := pkF) (h := ?_) | refine WL.y (hy := pkT) (h := ?_))
    exact mg (by repeat (first | exact trivial | refine ⟨rfl, ?_⟩ | refine ⟨by rw [hb0]; rfl, ?_⟩)) (by repeat (first | exact SubL.nil | (apply SubL.cons; (repeat (first | exact At.here | apply At.there))) | exact SubL.refl _ | apply SubL.skip))
  refine WL.y (hy := mv) (h := ?_)
  apply brOr 5 19 24 (by exact rfl)
  · intro hb1
    refine un (h := ?_)
    refine WL.y (hy := (by first | exact fa | exact faE)) (h := ?_)
    refine un (h := ?_)
    refine WL.y (hy := (by first | exact ld | exact ldE)) (h := ?_)
    refine un (h := ?_)
    refine cl0 (hc := fun w hS => C_ref8_within j.ear 0 1440 w) (h := ?_)
    refine un (h := ?_)
    refine WL.y (hy := notB) (h := ?_)
    refine WL.y (hy := (by first | exact pkT | exact pkF)) (h := ?_)
    exact mg (by repeat (first | exact trivial | refine ⟨rfl, ?_⟩ | refine ⟨by rw [hb1]; rfl, ?_⟩)) (by repeat (first | exact SubL.nil | (apply SubL.cons; (repeat (first | exact At.here | apply At.there))) | exact SubL.refl _ | apply SubL.skip))
  · intro hb1
    repeat (first | refine un (h := ?_) | refine sk (h := ?_) | refine WL.y (hy := pkF) (h := ?_) | refine WL.y (hy := pkT) (h := ?_))
    exact mg (by repeat (first | exact trivial | refine ⟨rfl, ?_⟩ | refine ⟨by rw [hb1]; rfl, ?_⟩)) (by repeat (first | exact SubL.nil | (apply SubL.cons; (repeat (first | exact At.here | apply At.there))) | exact SubL.refl _ | apply SubL.skip))
  refine nl (h := ?_)
  refine q_seq (h := ?_)
  refine cd (by exact rfl) (fun h2 => ?_) (fun h2 => ?_)
  · skip
    refine sq (h := ?_)
    refine rg (h := ?_)
    refine WL.y (hy := asg) (h := ?_)
    refine WL.cut (by repeat (first | exact Cut.nil | apply Cut.hit | apply Cut.miss (by exact rfl))) ?_
    refine nl (h := ?_)
    refine q_seq (h := ?_)
    refine rtn (h := ?_)
    refine q_then_ret (h := ?_)
    refine q_ret (hR := ?_)
    first
      | exact fun w hS => ⟨true, fun _ => ⟨⟨hl.1.1, hl.1.2, hl.2⟩, hdu, hea, hkA, hkB, fun x hx => by
          obtain ⟨i', h8, e⟩ := List.mem_iff_getElem.1 hx
          exact hkC i' x h8 (by rw [List.getElem?_eq_getElem h8, e])⟩, rfl, hS.sub (by repeat (first | exact SubL.nil | (apply SubL.cons; (repeat (first | exact At.here | apply At.there))) | exact SubL.refl _ | apply SubL.skip))⟩
      | exact fun w hS => ⟨false, fun h9 => (by cases h9), rfl, hS.sub (by repeat (first | exact SubL.nil | (apply SubL.cons; (repeat (first | exact At.here | apply At.there))) | exact SubL.refl _ | apply SubL.skip))⟩
  · skip
    have g9 := h2
    rw [Bool.or_eq_false_iff, Bool.or_eq_false_iff] at g9
    have hl := g9.1.1
    rw [Bool.not_eq_false', lenB8, Bool.and_eq_true, Bool.and_eq_true, decide_eq_true_eq, decide_eq_true_eq, decide_eq_true_eq] at hl
    have hdu := win_no g9.1.2
    have hea := win_no g9.2
    refine skp (h := ?_)
    refine q_seq (h := ?_)
    refine sq (h := ?_)
    refine sq (h := ?_)
    refine rg (h := ?_)
    refine WL.y (hy := asg) (h := ?_)
    refine WL.cut (by repeat (first | exact Cut.nil | apply Cut.hit | apply Cut.miss (by exact rfl))) ?_
    refine nl (h := ?_)
    refine q_seq (h := ?_)
    refine bk (h := ?_)
    refine lp (X := Nat) (I := fun k => k ≤ j.af.length ∧ Asc j.af (i : Int) k) (le := fun k => [(1, .int .i64 i), (2, .int .i64 m), (3, .pointer (some ⟨b0, 0, none⟩)), (7, .int .i64 k)]) (Le := fun _ => [.blk b0 45 j.cells, .ro j.fA 1 j.af.length (enI j.af), .ro j.wA 1 j.wi.length (enI j.wi)]) (μ := fun k => j.af.length - k) 0 ⟨Nat.zero_le _, Asc.zero _ _⟩ (by repeat (first | exact trivial | refine ⟨rfl, ?_⟩)) (by repeat (first | exact SubL.nil | (apply SubL.cons; (repeat (first | exact At.here | apply At.there))) | exact SubL.refl _ | apply SubL.skip)) (fun k hk => ?_)
    obtain ⟨hkL, hkA⟩ := hk
    refine sq (h := ?_)
    refine sq (h := ?_)
    refine rg (h := ?_)
    refine WL.y (hy := mv) (h := ?_)
    refine WL.y (hy := (by first | exact fa | exact faE)) (h := ?_)
    refine WL.y (hy := (by first | exact ld | exact ldE)) (h := ?_)
    refine WL.y (hy := lenS) (h := ?_)
    refine WL.y (hy := lss) (h := ?_)
    refine nl (h := ?_)
    refine q_seq (h := ?_)
    refine cd (by exact rfl) (fun h3 => ?_) (fun h3 => ?_)
    · skip
      have hkn : k < j.af.length := by have := of_decide_eq_true h3; omega
      obtain ⟨x, hx⟩ : ∃ x, j.af[k]? = some x := ⟨_, List.getElem?_eq_getElem hkn⟩
      have hxe := enI_at hx
      refine skp (h := ?_)
      refine q_seq (h := ?_)
      refine sq (h := ?_)
      refine bk (h := ?_)
      refine sq (h := ?_)
      refine rgD (by kernel_rfl) [(1000000, .blk b0 45 j.cells), (1000000, .ro j.fA 1 j.af.length (enI j.af))] (by repeat (first | exact HS.nil | (apply HS.keep; (repeat (first | exact At.here | apply At.there))) | (apply HS.ro; (repeat (first | exact Rds.ro | exact Rds.own | apply Rds.there))))) (h := ?_)
      refine tk 0 (hy := (by first | exact fa | exact faE)) (h := ?_)
      refine tk 1 (hy := (by first | exact ld | exact ldE)) (h := ?_)
      refine tk 2 (hy := mv) (h := ?_)
      refine tk 3 (hy := ix (A := j.fA) (m := j.af.length) (hb := by omega)) (h := ?_)
      refine tk 4 (hy := ldE (A := j.fA) (hk := hxe)) (h := ?_)
      refine tk 5 (hy := mv) (h := ?_)
      refine tk 6 (hy := subI (hb := by omega)) (h := ?_)
      refine one 7 (h := ?_)
      refine cl0 (hc := fun w hS => C_ref8_within x 0 ((i : Int) - 1) w) (h := ?_)
      refine nx (h := ?_)
      refine tk 8 (hy := notB) (h := ?_)
      refine tk 9 (hy := mv) (h := ?_)
      refine brH (g := 41) (by exact rfl) (fun hb4 => ?_) (fun hb4 => ?_)
      · skip
        refine tkS 10 (h := ?_)
        refine tkS 11 (h := ?_)
        refine tkS 12 (h := ?_)
        refine tkS 13 (h := ?_)
        refine tkS 14 (h := ?_)
        refine tkS 15 (h := ?_)
        refine tkS 16 (h := ?_)
        refine tkS 17 (h := ?_)
        refine tkS 18 (h := ?_)
        refine tkS 19 (h := ?_)
        refine tkS 20 (h := ?_)
        refine tkS 21 (h := ?_)
        refine tkS 22 (h := ?_)
        refine tkS 23 (h := ?_)
        refine tkS 24 (h := ?_)
        refine tkS 25 (h := ?_)
        refine tk 26 (hy := (by first | exact pkT | exact pkF)) (h := ?_)
        refine dn (h := ?_)
        refine q_seq (h := ?_)
        refine cdT (h := ?_)
        refine sq (h := ?_)
        refine rg (h := ?_)
        refine WL.y (hy := asg) (h := ?_)
        refine WL.cut (by repeat (first | exact Cut.nil | apply Cut.hit | apply Cut.miss (by exact rfl))) ?_
        refine nl (h := ?_)
        refine q_seq (h := ?_)
        refine rtn (h := ?_)
        refine q_blk_ret (h := ?_)
        refine q_then_ret (h := ?_)
        refine q_then_ret (h := ?_)
        refine q_blk_ret (h := ?_)
        refine q_then_ret (h := ?_)
        refine q_ret (hR := ?_)
        first
          | exact fun w hS => ⟨true, fun _ => ⟨⟨hl.1.1, hl.1.2, hl.2⟩, hdu, hea, hkA, hkB, fun x hx => by
              obtain ⟨i', h8, e⟩ := List.mem_iff_getElem.1 hx
              exact hkC i' x h8 (by rw [List.getElem?_eq_getElem h8, e])⟩, rfl, hS.sub (by repeat (first | exact SubL.nil | (apply SubL.cons; (repeat (first | exact At.here | apply At.there))) | exact SubL.refl _ | apply SubL.skip))⟩
          | exact fun w hS => ⟨false, fun h9 => (by cases h9), rfl, hS.sub (by repeat (first | exact SubL.nil | (apply SubL.cons; (repeat (first | exact At.here | apply At.there))) | exact SubL.refl _ | apply SubL.skip))⟩
      · skip
        have hw1 := win_no hb4
        refine tk 10 (hy := mv) (h := ?_)
        refine tk 11 (hy := gtr) (h := ?_)
        refine tk 12 (hy := mv) (h := ?_)
        refine brH (g := 44) (by exact rfl) (fun hb6 => ?_) (fun hb6 => ?_)
        · skip
          have hk0 : 0 < k := by have := of_decide_eq_true hb6; omega
          obtain ⟨y, hy⟩ : ∃ y, j.af[k - 1]? = some y := ⟨_, List.getElem?_eq_getElem (by omega)⟩
          have hye : (enI j.af)[((k : Int) - 1).toNat]? = some [.int .i64 y] := by rw [show ((k : Int) - 1).toNat = k - 1 by omega]; exact enI_at hy
          refine tk 13 (hy := (by first | exact fa | exact faE)) (h := ?_)
          refine tk 14 (hy := (by first | exact ld | exact ldE)) (h := ?_)
          refine tk 15 (hy := mv) (h := ?_)
          refine tk 16 (hy := ix (A := j.fA) (m := j.af.length) (hb := by omega)) (h := ?_)
          refine tk 17 (hy := ldE (A := j.fA) (hk := hxe)) (h := ?_)
          refine tk 18 (hy := (by first | exact fa | exact faE)) (h := ?_)
          refine tk 19 (hy := (by first | exact ld | exact ldE)) (h := ?_)
          refine tk 20 (hy := mv) (h := ?_)
          refine tk 21 (hy := subI (hb := by omega)) (h := ?_)
          refine tk 22 (hy := ix (A := j.fA) (m := j.af.length) (hb := by omega)) (h := ?_)
          refine tk 23 (hy := ldE (A := j.fA) (hk := hye)) (h := ?_)
          refine tk 24 (hy := leq) (h := ?_)
          refine tk 25 (hy := (by first | exact pkT | exact pkF)) (h := ?_)
          refine tk 26 (hy := (by first | exact pkT | exact pkF)) (h := ?_)
          refine dn (h := ?_)
          refine q_seq (h := ?_)
          refine cd (by exact rfl) (fun h7 => ?_) (fun h7 => ?_)
          · skip
            refine sq (h := ?_)
            refine rg (h := ?_)
            refine WL.y (hy := asg) (h := ?_)
            refine WL.cut (by repeat (first | exact Cut.nil | apply Cut.hit | apply Cut.miss (by exact rfl))) ?_
            refine nl (h := ?_)
            refine q_seq (h := ?_)
            refine rtn (h := ?_)
            refine q_blk_ret (h := ?_)
            refine q_then_ret (h := ?_)
            refine q_then_ret (h := ?_)
            refine q_blk_ret (h := ?_)
            refine q_then_ret (h := ?_)
            refine q_ret (hR := ?_)
            first
              | exact fun w hS => ⟨true, fun _ => ⟨⟨hl.1.1, hl.1.2, hl.2⟩, hdu, hea, hkA, hkB, fun x hx => by
                  obtain ⟨i', h8, e⟩ := List.mem_iff_getElem.1 hx
                  exact hkC i' x h8 (by rw [List.getElem?_eq_getElem h8, e])⟩, rfl, hS.sub (by repeat (first | exact SubL.nil | (apply SubL.cons; (repeat (first | exact At.here | apply At.there))) | exact SubL.refl _ | apply SubL.skip))⟩
              | exact fun w hS => ⟨false, fun h9 => (by cases h9), rfl, hS.sub (by repeat (first | exact SubL.nil | (apply SubL.cons; (repeat (first | exact At.here | apply At.there))) | exact SubL.refl _ | apply SubL.skip))⟩
          · skip
            first
              | (have hlt : ∀ y', 0 < k → j.af[k - 1]? = some y' → y' < x := fun y' _ hy' => by rw [hy] at hy'; cases hy'; have := of_decide_eq_false (show decide (x ≤ y) = false by assumption); omega
                 have hA2 := hkA.succ hx (by omega) hlt)
              | have hA2 := hkA.succ hx (by omega) hlt
            refine skp (h := ?_)
            refine q_blk_norm (h := ?_)
            refine q_seq (h := ?_)
            refine rg (h := ?_)
            refine WL.y (hy := mv) (h := ?_)
            refine WL.y (hy := addI) (h := ?_)
            refine WL.y (hy := asg) (h := ?_)
            refine WL.cut (by repeat (first | exact Cut.nil | apply Cut.hit | apply Cut.miss (by exact rfl))) ?_
            refine nl (h := ?_)
            refine rn (x := k) (k + 1) ⟨hkn, hA2⟩ (by omega) (by repeat (first | exact trivial | refine ⟨rfl, ?_⟩)) (by repeat (first | exact SubL.nil | (apply SubL.cons; (repeat (first | exact At.here | apply At.there))) | exact SubL.refl _ | apply SubL.skip))
        · skip
          have hk0 : ¬ 0 < k := by have := of_decide_eq_false hb6; omega
          have hlt : ∀ y, 0 < k → j.af[k - 1]? = some y → y < x := fun y h9 => absurd h9 hk0
          refine tkS 13 (h := ?_)
          refine tkS 14 (h := ?_)
          refine tkS 15 (h := ?_)
          refine tkS 16 (h := ?_)
          refine tkS 17 (h := ?_)
          refine tkS 18 (h := ?_)
          refine tkS 19 (h := ?_)
          refine tkS 20 (h := ?_)
          refine tkS 21 (h := ?_)
          refine tkS 22 (h := ?_)
          refine tkS 23 (h := ?_)
          refine tkS 24 (h := ?_)
          refine tk 25 (hy := (by first | exact pkT | exact pkF)) (h := ?_)
          refine tk 26 (hy := (by first | exact pkT | exact pkF)) (h := ?_)
          refine dn (h := ?_)
          refine q_seq (h := ?_)
          refine cdF (h := ?_)
          first
            | (have hlt : ∀ y', 0 < k → j.af[k - 1]? = some y' → y' < x := fun y' _ hy' => by rw [hy] at hy'; cases hy'; have := of_decide_eq_false (show decide (x ≤ y) = false by assumption); omega
               have hA2 := hkA.succ hx (by omega) hlt)
            | have hA2 := hkA.succ hx (by omega) hlt
          refine skp (h := ?_)
          refine q_blk_norm (h := ?_)
          refine q_seq (h := ?_)
          refine rg (h := ?_)
          refine WL.y (hy := mv) (h := ?_)
          refine WL.y (hy := addI) (h := ?_)
          refine WL.y (hy := asg) (h := ?_)
          refine WL.cut (by repeat (first | exact Cut.nil | apply Cut.hit | apply Cut.miss (by exact rfl))) ?_
          refine nl (h := ?_)
          refine rn (x := k) (k + 1) ⟨hkn, hA2⟩ (by omega) (by repeat (first | exact trivial | refine ⟨rfl, ?_⟩)) (by repeat (first | exact SubL.nil | (apply SubL.cons; (repeat (first | exact At.here | apply At.there))) | exact SubL.refl _ | apply SubL.skip))
    · skip
      have hkn : k = j.af.length := by have := of_decide_eq_false h3; omega
      rw [hkn] at hkA
      refine et (h := ?_)
      refine q_then_exit (h := ?_)
      refine q_then_exit (h := ?_)
      refine q_blk_hit (h := ?_)
      refine q_seq (h := ?_)
      refine sq (h := ?_)
      refine sq (h := ?_)
      refine rg (h := ?_)
      refine WL.y (hy := asg) (h := ?_)
      refine WL.cut (by repeat (first | exact Cut.nil | apply Cut.hit | apply Cut.miss (by exact rfl))) ?_
      refine nl (h := ?_)
      refine q_seq (h := ?_)
      refine bk (h := ?_)
      refine lp (X := Nat) (I := fun k => k ≤ j.wi.length ∧ Asc j.wi (m : Int) k ∧ ∀ i' x, i' < k → j.wi[i']? = some x → x ≠ (i : Int)) (le := fun k => [(1, .int .i64 i), (2, .int .i64 m), (3, .pointer (some ⟨b0, 0, none⟩)), (8, .int .i64 k)]) (Le := fun _ => [.blk b0 45 j.cells, .ro j.wA 1 j.wi.length (enI j.wi)]) (μ := fun k => j.wi.length - k) 0 ⟨Nat.zero_le _, Asc.zero _ _, fun _ _ h9 => absurd h9 (Nat.not_lt_zero _)⟩ (by repeat (first | exact trivial | refine ⟨rfl, ?_⟩)) (by repeat (first | exact SubL.nil | (apply SubL.cons; (repeat (first | exact At.here | apply At.there))) | exact SubL.refl _ | apply SubL.skip)) (fun k hk => ?_)
      obtain ⟨hkL, hkB, hkC⟩ := hk
      refine sq (h := ?_)
      refine sq (h := ?_)
      refine rg (h := ?_)
      refine WL.y (hy := mv) (h := ?_)
      refine WL.y (hy := (by first | exact fa | exact faE)) (h := ?_)
      refine WL.y (hy := (by first | exact ld | exact ldE)) (h := ?_)
      refine WL.y (hy := lenS) (h := ?_)
      refine WL.y (hy := lss) (h := ?_)
      refine nl (h := ?_)
      refine q_seq (h := ?_)
      refine cd (by exact rfl) (fun h9 => ?_) (fun h9 => ?_)
      · skip
        have hkn : k < j.wi.length := by have := of_decide_eq_true h9; omega
        obtain ⟨x, hx⟩ : ∃ x, j.wi[k]? = some x := ⟨_, List.getElem?_eq_getElem hkn⟩
        have hxe := enI_at hx
        refine skp (h := ?_)
        refine q_seq (h := ?_)
        refine sq (h := ?_)
        refine bk (h := ?_)
        refine sq (h := ?_)
        refine rgD (by kernel_rfl) [(1000000, .blk b0 45 j.cells), (1000000, .ro j.wA 1 j.wi.length (enI j.wi))] (by repeat (first | exact HS.nil | (apply HS.keep; (repeat (first | exact At.here | apply At.there))) | (apply HS.ro; (repeat (first | exact Rds.ro | exact Rds.own | apply Rds.there))))) (h := ?_)
        refine tk 0 (hy := (by first | exact fa | exact faE)) (h := ?_)
        refine tk 1 (hy := (by first | exact ld | exact ldE)) (h := ?_)
        refine tk 2 (hy := mv) (h := ?_)
        refine tk 3 (hy := ix (A := j.wA) (m := j.wi.length) (hb := by omega)) (h := ?_)
        refine tk 4 (hy := ldE (A := j.wA) (hk := hxe)) (h := ?_)
        refine tk 5 (hy := mv) (h := ?_)
        refine tk 6 (hy := subI (hb := by omega)) (h := ?_)
        refine one 7 (h := ?_)
        refine cl0 (hc := fun w hS => C_ref8_within x 0 ((m : Int) - 1) w) (h := ?_)
        refine nx (h := ?_)
        refine tk 8 (hy := notB) (h := ?_)
        refine tk 9 (hy := mv) (h := ?_)
        refine brH (g := 75) (by exact rfl) (fun hb10 => ?_) (fun hb10 => ?_)
        · skip
          refine tkS 10 (h := ?_)
          refine tkS 11 (h := ?_)
          refine tkS 12 (h := ?_)
          refine tkS 13 (h := ?_)
          refine tkS 14 (h := ?_)
          refine tkS 15 (h := ?_)
          refine tkS 16 (h := ?_)
          refine tk 17 (hy := (by first | exact pkT | exact pkF)) (h := ?_)
          refine tk 18 (hy := mv) (h := ?_)
          refine tkS 19 (h := ?_)
          refine tkS 20 (h := ?_)
          refine tkS 21 (h := ?_)
          refine tkS 22 (h := ?_)
          refine tkS 23 (h := ?_)
          refine tkS 24 (h := ?_)
          refine tkS 25 (h := ?_)
          refine tkS 26 (h := ?_)
          refine tkS 27 (h := ?_)
          refine tkS 28 (h := ?_)
          refine tkS 29 (h := ?_)
          refine tkS 30 (h := ?_)
          refine tkS 31 (h := ?_)
          refine tkS 32 (h := ?_)
          refine tkS 33 (h := ?_)
          refine tkS 34 (h := ?_)
          refine tk 35 (hy := (by first | exact pkT | exact pkF)) (h := ?_)
          refine dn (h := ?_)
          refine q_seq (h := ?_)
          refine cdT (h := ?_)
          refine sq (h := ?_)
          refine rg (h := ?_)
          refine WL.y (hy := asg) (h := ?_)
          refine WL.cut (by repeat (first | exact Cut.nil | apply Cut.hit | apply Cut.miss (by exact rfl))) ?_
          refine nl (h := ?_)
          refine q_seq (h := ?_)
          refine rtn (h := ?_)
          refine q_blk_ret (h := ?_)
          refine q_then_ret (h := ?_)
          refine q_then_ret (h := ?_)
          refine q_blk_ret (h := ?_)
          refine q_then_ret (h := ?_)
          refine q_ret (hR := ?_)
          first
            | exact fun w hS => ⟨true, fun _ => ⟨⟨hl.1.1, hl.1.2, hl.2⟩, hdu, hea, hkA, hkB, fun x hx => by
                obtain ⟨i', h8, e⟩ := List.mem_iff_getElem.1 hx
                exact hkC i' x h8 (by rw [List.getElem?_eq_getElem h8, e])⟩, rfl, hS.sub (by repeat (first | exact SubL.nil | (apply SubL.cons; (repeat (first | exact At.here | apply At.there))) | exact SubL.refl _ | apply SubL.skip))⟩
            | exact fun w hS => ⟨false, fun h9 => (by cases h9), rfl, hS.sub (by repeat (first | exact SubL.nil | (apply SubL.cons; (repeat (first | exact At.here | apply At.there))) | exact SubL.refl _ | apply SubL.skip))⟩
        · skip
          have hw2 := win_no hb10
          refine tk 10 (hy := (by first | exact fa | exact faE)) (h := ?_)
          refine tk 11 (hy := (by first | exact ld | exact ldE)) (h := ?_)
          refine tk 12 (hy := mv) (h := ?_)
          refine tk 13 (hy := ix (A := j.wA) (m := j.wi.length) (hb := by omega)) (h := ?_)
          refine tk 14 (hy := ldE (A := j.wA) (hk := hxe)) (h := ?_)
          refine tk 15 (hy := mv) (h := ?_)
          refine tk 16 (hy := eql) (h := ?_)
          refine tk 17 (hy := (by first | exact pkT | exact pkF)) (h := ?_)
          refine tk 18 (hy := mv) (h := ?_)
          refine brH (g := 84) (by exact rfl) (fun hb12 => ?_) (fun hb12 => ?_)
          · skip
            refine tkS 19 (h := ?_)
            refine tkS 20 (h := ?_)
            refine tkS 21 (h := ?_)
            refine tkS 22 (h := ?_)
            refine tkS 23 (h := ?_)
            refine tkS 24 (h := ?_)
            refine tkS 25 (h := ?_)
            refine tkS 26 (h := ?_)
            refine tkS 27 (h := ?_)
            refine tkS 28 (h := ?_)
            refine tkS 29 (h := ?_)
            refine tkS 30 (h := ?_)
            refine tkS 31 (h := ?_)
            refine tkS 32 (h := ?_)
            refine tkS 33 (h := ?_)
            refine tkS 34 (h := ?_)
            refine tk 35 (hy := (by first | exact pkT | exact pkF)) (h := ?_)
            refine dn (h := ?_)
            refine q_seq (h := ?_)
            refine cdT (h := ?_)
            refine sq (h := ?_)
            refine rg (h := ?_)
            refine WL.y (hy := asg) (h := ?_)
            refine WL.cut (by repeat (first | exact Cut.nil | apply Cut.hit | apply Cut.miss (by exact rfl))) ?_
            refine nl (h := ?_)
            refine q_seq (h := ?_)
            refine rtn (h := ?_)
            refine q_blk_ret (h := ?_)
            refine q_then_ret (h := ?_)
            refine q_then_ret (h := ?_)
            refine q_blk_ret (h := ?_)
            refine q_then_ret (h := ?_)
            refine q_ret (hR := ?_)
            first
              | exact fun w hS => ⟨true, fun _ => ⟨⟨hl.1.1, hl.1.2, hl.2⟩, hdu, hea, hkA, hkB, fun x hx => by
                  obtain ⟨i', h8, e⟩ := List.mem_iff_getElem.1 hx
                  exact hkC i' x h8 (by rw [List.getElem?_eq_getElem h8, e])⟩, rfl, hS.sub (by repeat (first | exact SubL.nil | (apply SubL.cons; (repeat (first | exact At.here | apply At.there))) | exact SubL.refl _ | apply SubL.skip))⟩
              | exact fun w hS => ⟨false, fun h9 => (by cases h9), rfl, hS.sub (by repeat (first | exact SubL.nil | (apply SubL.cons; (repeat (first | exact At.here | apply At.there))) | exact SubL.refl _ | apply SubL.skip))⟩
          · skip
            have hne : x ≠ (i : Int) := of_decide_eq_false hb12
            refine tk 19 (hy := mv) (h := ?_)
            refine tk 20 (hy := gtr) (h := ?_)
            refine tk 21 (hy := mv) (h := ?_)
            refine brH (g := 87) (by exact rfl) (fun hb14 => ?_) (fun hb14 => ?_)
            · skip
              have hk0 : 0 < k := by have := of_decide_eq_true hb14; omega
              obtain ⟨y, hy⟩ : ∃ y, j.wi[k - 1]? = some y := ⟨_, List.getElem?_eq_getElem (by omega)⟩
              have hye : (enI j.wi)[((k : Int) - 1).toNat]? = some [.int .i64 y] := by rw [show ((k : Int) - 1).toNat = k - 1 by omega]; exact enI_at hy
              refine tk 22 (hy := (by first | exact fa | exact faE)) (h := ?_)
              refine tk 23 (hy := (by first | exact ld | exact ldE)) (h := ?_)
              refine tk 24 (hy := mv) (h := ?_)
              refine tk 25 (hy := ix (A := j.wA) (m := j.wi.length) (hb := by omega)) (h := ?_)
              refine tk 26 (hy := ldE (A := j.wA) (hk := hxe)) (h := ?_)
              refine tk 27 (hy := (by first | exact fa | exact faE)) (h := ?_)
              refine tk 28 (hy := (by first | exact ld | exact ldE)) (h := ?_)
              refine tk 29 (hy := mv) (h := ?_)
              refine tk 30 (hy := subI (hb := by omega)) (h := ?_)
              refine tk 31 (hy := ix (A := j.wA) (m := j.wi.length) (hb := by omega)) (h := ?_)
              refine tk 32 (hy := ldE (A := j.wA) (hk := hye)) (h := ?_)
              refine tk 33 (hy := leq) (h := ?_)
              refine tk 34 (hy := (by first | exact pkT | exact pkF)) (h := ?_)
              refine tk 35 (hy := (by first | exact pkT | exact pkF)) (h := ?_)
              refine dn (h := ?_)
              refine q_seq (h := ?_)
              refine cd (by exact rfl) (fun h15 => ?_) (fun h15 => ?_)
              · skip
                refine sq (h := ?_)
                refine rg (h := ?_)
                refine WL.y (hy := asg) (h := ?_)
                refine WL.cut (by repeat (first | exact Cut.nil | apply Cut.hit | apply Cut.miss (by exact rfl))) ?_
                refine nl (h := ?_)
                refine q_seq (h := ?_)
                refine rtn (h := ?_)
                refine q_blk_ret (h := ?_)
                refine q_then_ret (h := ?_)
                refine q_then_ret (h := ?_)
                refine q_blk_ret (h := ?_)
                refine q_then_ret (h := ?_)
                refine q_ret (hR := ?_)
                first
                  | exact fun w hS => ⟨true, fun _ => ⟨⟨hl.1.1, hl.1.2, hl.2⟩, hdu, hea, hkA, hkB, fun x hx => by
                      obtain ⟨i', h8, e⟩ := List.mem_iff_getElem.1 hx
                      exact hkC i' x h8 (by rw [List.getElem?_eq_getElem h8, e])⟩, rfl, hS.sub (by repeat (first | exact SubL.nil | (apply SubL.cons; (repeat (first | exact At.here | apply At.there))) | exact SubL.refl _ | apply SubL.skip))⟩
                  | exact fun w hS => ⟨false, fun h9 => (by cases h9), rfl, hS.sub (by repeat (first | exact SubL.nil | (apply SubL.cons; (repeat (first | exact At.here | apply At.there))) | exact SubL.refl _ | apply SubL.skip))⟩
              · skip
                first
                  | (have hlt : ∀ y', 0 < k → j.wi[k - 1]? = some y' → y' < x := fun y' _ hy' => by rw [hy] at hy'; cases hy'; have := of_decide_eq_false (show decide (x ≤ y) = false by assumption); omega
                     have hA2 := hkB.succ hx (by omega) hlt)
                  | have hA2 := hkB.succ hx (by omega) hlt
                refine skp (h := ?_)
                refine q_blk_norm (h := ?_)
                refine q_seq (h := ?_)
                refine rg (h := ?_)
                refine WL.y (hy := mv) (h := ?_)
                refine WL.y (hy := addI) (h := ?_)
                refine WL.y (hy := asg) (h := ?_)
                refine WL.cut (by repeat (first | exact Cut.nil | apply Cut.hit | apply Cut.miss (by exact rfl))) ?_
                refine nl (h := ?_)
                refine rn (x := k) (k + 1) ⟨hkn, hA2, fun i' x' g8 g9 => by
                  by_cases e : i' = k
                  · rw [e, hx] at g9; cases g9; exact hne
                  · exact hkC i' x' (by omega) g9⟩ (by omega) (by repeat (first | exact trivial | refine ⟨rfl, ?_⟩)) (by repeat (first | exact SubL.nil | (apply SubL.cons; (repeat (first | exact At.here | apply At.there))) | exact SubL.refl _ | apply SubL.skip))
            · skip
              have hk0 : ¬ 0 < k := by have := of_decide_eq_false hb14; omega
              have hlt : ∀ y, 0 < k → j.wi[k - 1]? = some y → y < x := fun y h9 => absurd h9 hk0
              refine tkS 22 (h := ?_)
              refine tkS 23 (h := ?_)
              refine tkS 24 (h := ?_)
              refine tkS 25 (h := ?_)
              refine tkS 26 (h := ?_)
              refine tkS 27 (h := ?_)
              refine tkS 28 (h := ?_)
              refine tkS 29 (h := ?_)
              refine tkS 30 (h := ?_)
              refine tkS 31 (h := ?_)
              refine tkS 32 (h := ?_)
              refine tkS 33 (h := ?_)
              refine tk 34 (hy := (by first | exact pkT | exact pkF)) (h := ?_)
              refine tk 35 (hy := (by first | exact pkT | exact pkF)) (h := ?_)
              refine dn (h := ?_)
              refine q_seq (h := ?_)
              refine cdF (h := ?_)
              first
                | (have hlt : ∀ y', 0 < k → j.wi[k - 1]? = some y' → y' < x := fun y' _ hy' => by rw [hy] at hy'; cases hy'; have := of_decide_eq_false (show decide (x ≤ y) = false by assumption); omega
                   have hA2 := hkB.succ hx (by omega) hlt)
                | have hA2 := hkB.succ hx (by omega) hlt
              refine skp (h := ?_)
              refine q_blk_norm (h := ?_)
              refine q_seq (h := ?_)
              refine rg (h := ?_)
              refine WL.y (hy := mv) (h := ?_)
              refine WL.y (hy := addI) (h := ?_)
              refine WL.y (hy := asg) (h := ?_)
              refine WL.cut (by repeat (first | exact Cut.nil | apply Cut.hit | apply Cut.miss (by exact rfl))) ?_
              refine nl (h := ?_)
              refine rn (x := k) (k + 1) ⟨hkn, hA2, fun i' x' g8 g9 => by
                by_cases e : i' = k
                · rw [e, hx] at g9; cases g9; exact hne
                · exact hkC i' x' (by omega) g9⟩ (by omega) (by repeat (first | exact trivial | refine ⟨rfl, ?_⟩)) (by repeat (first | exact SubL.nil | (apply SubL.cons; (repeat (first | exact At.here | apply At.there))) | exact SubL.refl _ | apply SubL.skip))
      · skip
        have hkn : k = j.wi.length := by have := of_decide_eq_false h9; omega
        rw [hkn] at hkB hkC
        refine et (h := ?_)
        refine q_then_exit (h := ?_)
        refine q_then_exit (h := ?_)
        refine q_blk_hit (h := ?_)
        refine q_seq (h := ?_)
        refine sq (h := ?_)
        refine rg (h := ?_)
        refine WL.y (hy := asg) (h := ?_)
        refine WL.cut (by repeat (first | exact Cut.nil | apply Cut.hit | apply Cut.miss (by exact rfl))) ?_
        refine nl (h := ?_)
        refine q_seq (h := ?_)
        refine rtn (h := ?_)
        refine q_ret (hR := ?_)
        first
          | exact fun w hS => ⟨true, fun _ => ⟨⟨hl.1.1, hl.1.2, hl.2⟩, hdu, hea, hkA, hkB, fun x hx => by
              obtain ⟨i', h8, e⟩ := List.mem_iff_getElem.1 hx
              exact hkC i' x h8 (by rw [List.getElem?_eq_getElem h8, e])⟩, rfl, hS.sub (by repeat (first | exact SubL.nil | (apply SubL.cons; (repeat (first | exact At.here | apply At.there))) | exact SubL.refl _ | apply SubL.skip))⟩
          | exact fun w hS => ⟨false, fun h9 => (by cases h9), rfl, hS.sub (by repeat (first | exact SubL.nil | (apply SubL.cons; (repeat (first | exact At.here | apply At.there))) | exact SubL.refl _ | apply SubL.skip))⟩
end Go.Proofs.Ytngelilffleimaa

namespace Go.Proofs.Ytngelilffleimaa
open Go Go.RowKit

structure DyOk (nc : Nat) (d : Dy) : Prop where
  n : d.sp.length = nc
  s : ∀ i s, i < d.sp.length → d.sp[i]? = some s → 0 ≤ s.1 ∧ s.1 ≤ s.2 ∧ s.2 ≤ 1440
set_option maxRecDepth 100000 in
set_option maxHeartbeats 1000000 in
theorem C_ref8_Check (p : Pg) (w : World) (h : PgR w p) : CR Try.prog 5 [p.val] w (fun e : Int => e = 0 → POk p) (fun e => .int .i64 e) (fun _ => []) := by
  have hn := h.nums
  refine ⟨en Try.func5 Try.ntmps5 (((St.init w).share (e := .ro p.dA 1 p.days.length (encDy p.days)) h.d rfl rfl rfl).share (e := .ro p.jA 6 p.jobs.length (encJb p.jobs)) h.j rfl rfl rfl) (h := fun F => ?_)⟩
  refine sq (h := ?_)
  refine rg (h := ?_)
  refine bxA (h := fun b0 => ?_)
  refine WL.y (hy := asg) (h := ?_)
  refine WL.cut (by repeat (first | exact Cut.nil | apply Cut.hit | apply Cut.miss (by exact rfl))) ?_
  refine nl (h := ?_)
  refine q_seq (h := ?_)
  refine sq (h := ?_)
  refine sq (h := ?_)
  refine rg (h := ?_)
  refine WL.y (hy := (by first | exact fa | exact faE)) (h := ?_)
  refine WL.y (hy := (by first | exact ld | exact ldE)) (h := ?_)
  refine WL.y (hy := lenS) (h := ?_)
  refine cl0 (hc := fun w hS => C_ref8_within p.days.length 1 3 w) (h := ?_)
  refine WL.y (hy := notB) (h := ?_)
  refine WL.y (hy := mv) (h := ?_)
  apply brOr 8 12 20 (by exact rfl)
  · intro hb0
    have hnd := win_no hb0
    obtain ⟨d0, hd0⟩ : ∃ d, p.days[0]? = some d := ⟨_, List.getElem?_eq_getElem (by omega)⟩
    have hn0 := nc_first hd0
    refine un (h := ?_)
    refine WL.y (hy := (by first | exact fa | exact faE)) (h := ?_)
    refine un (h := ?_)
    refine WL.y (hy := (by first | exact ld | exact ldE)) (h := ?_)
    refine un (h := ?_)
    refine WL.y (hy := ix (A := p.dA) (m := p.days.length) (hb := by omega)) (h := ?_)
    refine un (h := ?_)
    refine WL.y (hy := ldE (A := p.dA) (k := 0) (hk := encDy_at hd0)) (h := ?_)
    refine un (h := ?_)
    refine WL.y (hy := lenS) (h := ?_)
    rw [hn0]
    refine un (h := ?_)
    refine cl0 (hc := fun w hS => C_ref8_within p.nc 1 3 w) (h := ?_)
    refine un (h := ?_)
    refine WL.y (hy := notB) (h := ?_)
    refine WL.y (hy := (by first | exact pkT | exact pkF)) (h := ?_)
    exact mg (by repeat (first | exact trivial | refine ⟨rfl, ?_⟩ | refine ⟨by rw [hb0]; rfl, ?_⟩)) (by repeat (first | exact SubL.nil | (apply SubL.cons; (repeat (first | exact At.here | apply At.there))) | exact SubL.refl _ | apply SubL.skip))
  · intro hb0
    repeat (first | refine un (h := ?_) | refine sk (h := ?_) | refine WL.y (hy := pkF) (h := ?_) | refine WL.y (hy := pkT) (h := ?_))
    exact mg (by repeat (first | exact trivial | refine ⟨rfl, ?_⟩ | refine ⟨by rw [hb0]; rfl, ?_⟩)) (by repeat (first | exact SubL.nil | (apply SubL.cons; (repeat (first | exact At.here | apply At.there))) | exact SubL.refl _ | apply SubL.skip))
  refine WL.y (hy := mv) (h := ?_)
  apply brOr 5 21 26 (by exact rfl)
  · intro hb1
    refine un (h := ?_)
    refine WL.y (hy := (by first | exact fa | exact faE)) (h := ?_)
    refine un (h := ?_)
    refine WL.y (hy := (by first | exact ld | exact ldE)) (h := ?_)
    refine un (h := ?_)
    refine cl0 (hc := fun w hS => C_ref8_within p.rest 0 600 w) (h := ?_)
    refine un (h := ?_)
    refine WL.y (hy := notB) (h := ?_)
    refine WL.y (hy := (by first | exact pkT | exact pkF)) (h := ?_)
    exact mg (by repeat (first | exact trivial | refine ⟨rfl, ?_⟩ | refine ⟨by rw [hb1]; rfl, ?_⟩)) (by repeat (first | exact SubL.nil | (apply SubL.cons; (repeat (first | exact At.here | apply At.there))) | exact SubL.refl _ | apply SubL.skip))
  · intro hb1
    repeat (first | refine un (h := ?_) | refine sk (h := ?_) | refine WL.y (hy := pkF) (h := ?_) | refine WL.y (hy := pkT) (h := ?_))
    exact mg (by repeat (first | exact trivial | refine ⟨rfl, ?_⟩ | refine ⟨by rw [hb1]; rfl, ?_⟩)) (by repeat (first | exact SubL.nil | (apply SubL.cons; (repeat (first | exact At.here | apply At.there))) | exact SubL.refl _ | apply SubL.skip))
  refine WL.y (hy := mv) (h := ?_)
  apply brOr 5 27 32 (by exact rfl)
  · intro hb2
    refine un (h := ?_)
    refine WL.y (hy := (by first | exact fa | exact faE)) (h := ?_)
    refine un (h := ?_)
    refine WL.y (hy := (by first | exact ld | exact ldE)) (h := ?_)
    refine un (h := ?_)
    refine WL.y (hy := lenS) (h := ?_)
    refine un (h := ?_)
    refine WL.y (hy := gtr) (h := ?_)
    refine WL.y (hy := (by first | exact pkT | exact pkF)) (h := ?_)
    exact mg (by repeat (first | exact trivial | refine ⟨rfl, ?_⟩ | refine ⟨by rw [hb2]; rfl, ?_⟩)) (by repeat (first | exact SubL.nil | (apply SubL.cons; (repeat (first | exact At.here | apply At.there))) | exact SubL.refl _ | apply SubL.skip))
  · intro hb2
    repeat (first | refine un (h := ?_) | refine sk (h := ?_) | refine WL.y (hy := pkF) (h := ?_) | refine WL.y (hy := pkT) (h := ?_))
    exact mg (by repeat (first | exact trivial | refine ⟨rfl, ?_⟩ | refine ⟨by rw [hb2]; rfl, ?_⟩)) (by repeat (first | exact SubL.nil | (apply SubL.cons; (repeat (first | exact At.here | apply At.there))) | exact SubL.refl _ | apply SubL.skip))
  refine nl (h := ?_)
  refine q_seq (h := ?_)
  refine cd (by exact rfl) (fun h3 => ?_) (fun h3 => ?_)
  · skip
    refine sq (h := ?_)
    refine rg (h := ?_)
    refine WL.y (hy := asg) (h := ?_)
    refine WL.cut (by repeat (first | exact Cut.nil | apply Cut.hit | apply Cut.miss (by exact rfl))) ?_
    refine nl (h := ?_)
    refine q_seq (h := ?_)
    refine rtn (h := ?_)
    refine q_then_ret (h := ?_)
    refine q_ret (hR := ?_)
    first
      | exact fun w hS => ⟨0, fun _ => ⟨by omega, hre, by omega, by omega, fun k d g8 g9 => ⟨(hkD k d g8 g9).n, (hkD k d g8 g9).s⟩, hkJ⟩, rfl, hS.sub (by repeat (first | exact SubL.nil | (apply SubL.cons; (repeat (first | exact At.here | apply At.there))) | exact SubL.refl _ | apply SubL.skip))⟩
      | exact fun w hS => ⟨80, fun g9 => absurd g9 (by decide), rfl, hS.sub (by repeat (first | exact SubL.nil | (apply SubL.cons; (repeat (first | exact At.here | apply At.there))) | exact SubL.refl _ | apply SubL.skip))⟩
  · skip
    have g9 := h3
    rw [Bool.or_eq_false_iff, Bool.or_eq_false_iff, Bool.or_eq_false_iff] at g9
    have hnd := win_no g9.1.1.1
    have hnc := win_no g9.1.1.2
    have hre := win_no g9.1.2
    have hnj := of_decide_eq_false g9.2
    obtain ⟨d0, hd0⟩ : ∃ d, p.days[0]? = some d := ⟨_, List.getElem?_eq_getElem (by omega)⟩
    have hn0 := nc_first hd0
    refine skp (h := ?_)
    refine q_seq (h := ?_)
    refine sq (h := ?_)
    refine sq (h := ?_)
    refine rg (h := ?_)
    refine WL.y (hy := asg) (h := ?_)
    refine WL.cut (by repeat (first | exact Cut.nil | apply Cut.hit | apply Cut.miss (by exact rfl))) ?_
    refine nl (h := ?_)
    refine q_seq (h := ?_)
    refine bk (h := ?_)
    refine lp (X := Nat) (I := fun k => k ≤ p.days.length ∧ ∀ i d, i < k → p.days[i]? = some d → DyOk p.nc d) (le := fun k => [(1, .pointer (some ⟨b0, 0, none⟩)), (3, .int .i64 k)]) (Le := fun _ => [.blk b0 25 p.cells, .ro p.dA 1 p.days.length (encDy p.days), .ro p.jA 6 p.jobs.length (encJb p.jobs)]) (μ := fun k => p.days.length - k) 0 ⟨Nat.zero_le _, fun _ _ g9 => absurd g9 (Nat.not_lt_zero _)⟩ (by repeat (first | exact trivial | refine ⟨rfl, ?_⟩)) (by repeat (first | exact SubL.nil | (apply SubL.cons; (repeat (first | exact At.here | apply At.there))) | exact SubL.refl _ | apply SubL.skip)) (fun k hk => ?_)
    obtain ⟨hkL, hkD⟩ := hk
    refine sq (h := ?_)
    refine sq (h := ?_)
    refine rg (h := ?_)
    refine WL.y (hy := mv) (h := ?_)
    refine WL.y (hy := (by first | exact fa | exact faE)) (h := ?_)
    refine WL.y (hy := (by first | exact ld | exact ldE)) (h := ?_)
    refine WL.y (hy := lenS) (h := ?_)
    refine WL.y (hy := lss) (h := ?_)
    refine nl (h := ?_)
    refine q_seq (h := ?_)
    refine cd (by exact rfl) (fun h4 => ?_) (fun h4 => ?_)
    · skip
      have hkn : k < p.days.length := by have := of_decide_eq_true h4; omega
      obtain ⟨d, hd⟩ : ∃ d, p.days[k]? = some d := ⟨_, List.getElem?_eq_getElem hkn⟩
      have hdm := List.mem_of_getElem? hd
      refine skp (h := ?_)
      refine q_seq (h := ?_)
      refine sq (h := ?_)
      refine bk (h := ?_)
      refine sq (h := ?_)
      refine sq (h := ?_)
      refine rgD (by kernel_rfl) [(1000000, .blk b0 25 p.cells), (1000000, .ro p.dA 1 p.days.length (encDy p.days))] (by repeat (first | exact HS.nil | (apply HS.keep; (repeat (first | exact At.here | apply At.there))) | (apply HS.ro; (repeat (first | exact Rds.ro | exact Rds.own | apply Rds.there))))) (h := ?_)
      refine tk 0 (hy := (by first | exact fa | exact faE)) (h := ?_)
      refine tk 1 (hy := (by first | exact ld | exact ldE)) (h := ?_)
      refine tk 2 (hy := mv) (h := ?_)
      refine tk 3 (hy := ix (A := p.dA) (m := p.days.length) (hb := by omega)) (h := ?_)
      refine tk 4 (hy := ldE (A := p.dA) (hk := encDy_at hd)) (h := ?_)
      refine tk 5 (hy := lenS) (h := ?_)
      refine tk 6 (hy := (by first | exact fa | exact faE)) (h := ?_)
      refine tk 7 (hy := (by first | exact ld | exact ldE)) (h := ?_)
      refine tk 8 (hy := ix (A := p.dA) (m := p.days.length) (hb := by omega)) (h := ?_)
      refine tk 9 (hy := ldE (A := p.dA) (k := 0) (hk := encDy_at hd0)) (h := ?_)
      refine tk 10 (hy := lenS) (h := ?_)
      refine tk 11 (hy := neq) (h := ?_)
      refine dn (h := ?_)
      refine q_seq (h := ?_)
      refine cd (by exact rfl) (fun h5 => ?_) (fun h5 => ?_)
      · skip
        refine sq (h := ?_)
        refine rg (h := ?_)
        refine WL.y (hy := asg) (h := ?_)
        refine WL.cut (by repeat (first | exact Cut.nil | apply Cut.hit | apply Cut.miss (by exact rfl))) ?_
        refine nl (h := ?_)
        refine q_seq (h := ?_)
        refine rtn (h := ?_)
        refine q_then_ret (h := ?_)
        refine q_blk_ret (h := ?_)
        refine q_then_ret (h := ?_)
        refine q_then_ret (h := ?_)
        refine q_blk_ret (h := ?_)
        refine q_then_ret (h := ?_)
        refine q_ret (hR := ?_)
        first
          | exact fun w hS => ⟨0, fun _ => ⟨by omega, hre, by omega, by omega, fun k d g8 g9 => ⟨(hkD k d g8 g9).n, (hkD k d g8 g9).s⟩, hkJ⟩, rfl, hS.sub (by repeat (first | exact SubL.nil | (apply SubL.cons; (repeat (first | exact At.here | apply At.there))) | exact SubL.refl _ | apply SubL.skip))⟩
          | exact fun w hS => ⟨80, fun g9 => absurd g9 (by decide), rfl, hS.sub (by repeat (first | exact SubL.nil | (apply SubL.cons; (repeat (first | exact At.here | apply At.there))) | exact SubL.refl _ | apply SubL.skip))⟩
      · skip
        have hdl : d.sp.length = p.nc := by have g9 := h5; rw [Bool.not_eq_false', decide_eq_true_eq] at g9; omega
        refine WC.old (h.s d hdm) ?_
        refine skp (h := ?_)
        refine q_seq (h := ?_)
        refine sq (h := ?_)
        refine rg (h := ?_)
        refine WL.y (hy := asg) (h := ?_)
        refine WL.cut (by repeat (first | exact Cut.nil | apply Cut.hit | apply Cut.miss (by exact rfl))) ?_
        refine nl (h := ?_)
        refine q_seq (h := ?_)
        refine bk (h := ?_)
        refine lp (X := Nat) (I := fun i => i ≤ d.sp.length ∧ ∀ i' s, i' < i → d.sp[i']? = some s → 0 ≤ s.1 ∧ s.1 ≤ s.2 ∧ s.2 ≤ 1440) (le := fun i => [(1, .pointer (some ⟨b0, 0, none⟩)), (3, .int .i64 k), (4, .int .i64 i)]) (Le := fun _ => [.blk b0 25 p.cells, .ro p.dA 1 p.days.length (encDy p.days), .ro p.jA 6 p.jobs.length (encJb p.jobs), .ro d.A 2 d.sp.length (encSn d.sp)]) (μ := fun i => d.sp.length - i) 0 ⟨Nat.zero_le _, fun _ _ g9 => absurd g9 (Nat.not_lt_zero _)⟩ (by repeat (first | exact trivial | refine ⟨rfl, ?_⟩)) (by repeat (first | exact SubL.nil | (apply SubL.cons; (repeat (first | exact At.here | apply At.there))) | exact SubL.refl _ | apply SubL.skip)) (fun i hi => ?_)
        obtain ⟨hiL, hiD⟩ := hi
        refine sq (h := ?_)
        refine sq (h := ?_)
        refine rg (h := ?_)
        refine WL.y (hy := mv) (h := ?_)
        refine WL.y (hy := (by first | exact fa | exact faE)) (h := ?_)
        refine WL.y (hy := (by first | exact ld | exact ldE)) (h := ?_)
        refine WL.y (hy := mv) (h := ?_)
        refine WL.y (hy := ix (A := p.dA) (m := p.days.length) (hb := by omega)) (h := ?_)
        refine WL.y (hy := ldE (A := p.dA) (hk := encDy_at hd)) (h := ?_)
        refine WL.y (hy := lenS) (h := ?_)
        refine WL.y (hy := lss) (h := ?_)
        refine nl (h := ?_)
        refine q_seq (h := ?_)
        refine cd (by exact rfl) (fun h6 => ?_) (fun h6 => ?_)
        · skip
          have hin : i < d.sp.length := by have := of_decide_eq_true h6; omega
          obtain ⟨s, hs⟩ : ∃ s, d.sp[i]? = some s := ⟨_, List.getElem?_eq_getElem hin⟩
          refine skp (h := ?_)
          refine q_seq (h := ?_)
          refine sq (h := ?_)
          refine bk (h := ?_)
          refine sq (h := ?_)
          refine rg (h := ?_)
          refine WL.y (hy := (by first | exact fa | exact faE)) (h := ?_)
          refine WL.y (hy := (by first | exact ld | exact ldE)) (h := ?_)
          refine WL.y (hy := mv) (h := ?_)
          refine WL.y (hy := ix (A := p.dA) (m := p.days.length) (hb := by omega)) (h := ?_)
          refine WL.y (hy := ldE (A := p.dA) (hk := encDy_at hd)) (h := ?_)
          refine WL.y (hy := mv) (h := ?_)
          refine WL.y (hy := ix (A := d.A) (m := d.sp.length) (hb := by omega)) (h := ?_)
          refine WL.y (hy := ldEW (A := d.A) (hk := encSn_at hs)) (h := ?_)
          refine al (h := fun b1 => ?_)
          first | refine stA (h := ?_) | refine stEA (h := ?_)
          refine nl (h := ?_)
          refine q_seq (h := ?_)
          refine sq (h := ?_)
          refine rg (h := ?_)
          refine WL.y (hy := (by first | exact fa | exact faE)) (h := ?_)
          refine WL.y (hy := (by first | exact ld | exact ldE)) (h := ?_)
          refine WL.y (hy := lss) (h := ?_)
          refine WL.y (hy := mv) (h := ?_)
          apply brOr 6 73 79 (by exact rfl)
          · intro hb7
            refine un (h := ?_)
            refine WL.y (hy := (by first | exact fa | exact faE)) (h := ?_)
            refine un (h := ?_)
            refine WL.y (hy := (by first | exact ld | exact ldE)) (h := ?_)
            refine un (h := ?_)
            refine WL.y (hy := (by first | exact fa | exact faE)) (h := ?_)
            refine un (h := ?_)
            refine WL.y (hy := (by first | exact ld | exact ldE)) (h := ?_)
            refine un (h := ?_)
            refine WL.y (hy := gtr) (h := ?_)
            refine WL.y (hy := (by first | exact pkT | exact pkF)) (h := ?_)
            exact mg (by repeat (first | exact trivial | refine ⟨rfl, ?_⟩ | refine ⟨by rw [hb7]; rfl, ?_⟩)) (by repeat (first | exact SubL.nil | (apply SubL.cons; (repeat (first | exact At.here | apply At.there))) | exact SubL.refl _ | apply SubL.skip))
          · intro hb7
            repeat (first | refine un (h := ?_) | refine sk (h := ?_) | refine WL.y (hy := pkF) (h := ?_) | refine WL.y (hy := pkT) (h := ?_))
            exact mg (by repeat (first | exact trivial | refine ⟨rfl, ?_⟩ | refine ⟨by rw [hb7]; rfl, ?_⟩)) (by repeat (first | exact SubL.nil | (apply SubL.cons; (repeat (first | exact At.here | apply At.there))) | exact SubL.refl _ | apply SubL.skip))
          refine WL.y (hy := mv) (h := ?_)
          apply brOr 4 80 84 (by exact rfl)
          · intro hb8
            refine un (h := ?_)
            refine WL.y (hy := (by first | exact fa | exact faE)) (h := ?_)
            refine un (h := ?_)
            refine WL.y (hy := (by first | exact ld | exact ldE)) (h := ?_)
            refine un (h := ?_)
            refine WL.y (hy := gtr) (h := ?_)
            refine WL.y (hy := (by first | exact pkT | exact pkF)) (h := ?_)
            exact mg (by repeat (first | exact trivial | refine ⟨rfl, ?_⟩ | refine ⟨by rw [hb8]; rfl, ?_⟩)) (by repeat (first | exact SubL.nil | (apply SubL.cons; (repeat (first | exact At.here | apply At.there))) | exact SubL.refl _ | apply SubL.skip))
          · intro hb8
            repeat (first | refine un (h := ?_) | refine sk (h := ?_) | refine WL.y (hy := pkF) (h := ?_) | refine WL.y (hy := pkT) (h := ?_))
            exact mg (by repeat (first | exact trivial | refine ⟨rfl, ?_⟩ | refine ⟨by rw [hb8]; rfl, ?_⟩)) (by repeat (first | exact SubL.nil | (apply SubL.cons; (repeat (first | exact At.here | apply At.there))) | exact SubL.refl _ | apply SubL.skip))
          refine nl (h := ?_)
          refine q_seq (h := ?_)
          refine cd (by exact rfl) (fun h9 => ?_) (fun h9 => ?_)
          · skip
            refine sq (h := ?_)
            refine rg (h := ?_)
            refine WL.y (hy := asg) (h := ?_)
            refine WL.cut (by repeat (first | exact Cut.nil | apply Cut.hit | apply Cut.miss (by exact rfl))) ?_
            refine nl (h := ?_)
            refine q_seq (h := ?_)
            refine rtn (h := ?_)
            refine q_blk_ret (h := ?_)
            refine q_then_ret (h := ?_)
            refine q_then_ret (h := ?_)
            refine q_blk_ret (h := ?_)
            refine q_blk_ret (h := ?_)
            refine q_then_ret (h := ?_)
            refine q_then_ret (h := ?_)
            refine q_blk_ret (h := ?_)
            refine q_then_ret (h := ?_)
            refine q_ret (hR := ?_)
            first
              | exact fun w hS => ⟨0, fun _ => ⟨by omega, hre, by omega, by omega, fun k d g8 g9 => ⟨(hkD k d g8 g9).n, (hkD k d g8 g9).s⟩, hkJ⟩, rfl, hS.sub (by repeat (first | exact SubL.nil | (apply SubL.cons; (repeat (first | exact At.here | apply At.there))) | exact SubL.refl _ | apply SubL.skip))⟩
              | exact fun w hS => ⟨80, fun g9 => absurd g9 (by decide), rfl, hS.sub (by repeat (first | exact SubL.nil | (apply SubL.cons; (repeat (first | exact At.here | apply At.there))) | exact SubL.refl _ | apply SubL.skip))⟩
          · skip
            have g9 := h9
            rw [Bool.or_eq_false_iff, Bool.or_eq_false_iff, decide_eq_false_iff_not, decide_eq_false_iff_not, decide_eq_false_iff_not] at g9
            have hsk : 0 ≤ s.1 ∧ s.1 ≤ s.2 ∧ s.2 ≤ 1440 := by omega
            refine skp (h := ?_)
            refine q_blk_norm (h := ?_)
            refine q_seq (h := ?_)
            refine rg (h := ?_)
            refine WL.y (hy := mv) (h := ?_)
            refine WL.y (hy := addI) (h := ?_)
            refine WL.y (hy := asg) (h := ?_)
            refine WL.cut (by repeat (first | exact Cut.nil | apply Cut.hit | apply Cut.miss (by exact rfl))) ?_
            refine nl (h := ?_)
            refine rn (x := i) (i + 1) ⟨hin, fun i' s' g8 g9 => by
              by_cases e : i' = i
              · rw [e, hs] at g9; cases g9; exact hsk
              · exact hiD i' s' (by omega) g9⟩ (by omega) (by repeat (first | exact trivial | refine ⟨rfl, ?_⟩)) (by repeat (first | exact SubL.nil | (apply SubL.cons; (repeat (first | exact At.here | apply At.there))) | exact SubL.refl _ | apply SubL.skip))
        · skip
          have hin : i = d.sp.length := by have := of_decide_eq_false h6; omega
          rw [hin] at hiD
          have hdo : DyOk p.nc d := ⟨hdl, hiD⟩
          refine et (h := ?_)
          refine q_then_exit (h := ?_)
          refine q_then_exit (h := ?_)
          refine q_blk_hit (h := ?_)
          refine q_blk_norm (h := ?_)
          refine q_seq (h := ?_)
          refine rg (h := ?_)
          refine WL.y (hy := mv) (h := ?_)
          refine WL.y (hy := addI) (h := ?_)
          refine WL.y (hy := asg) (h := ?_)
          refine WL.cut (by repeat (first | exact Cut.nil | apply Cut.hit | apply Cut.miss (by exact rfl))) ?_
          refine nl (h := ?_)
          refine rn (x := k) (k + 1) ⟨hkn, fun i' d' g8 g9 => by
            by_cases e : i' = k
            · rw [e, hd] at g9; cases g9; exact hdo
            · exact hkD i' d' (by omega) g9⟩ (by omega) (by repeat (first | exact trivial | refine ⟨rfl, ?_⟩)) (by repeat (first | exact SubL.nil | (apply SubL.cons; (repeat (first | exact At.here | apply At.there))) | exact SubL.refl _ | apply SubL.skip))
    · skip
      have hkn : k = p.days.length := by have := of_decide_eq_false h4; omega
      rw [hkn] at hkD
      refine et (h := ?_)
      refine q_then_exit (h := ?_)
      refine q_then_exit (h := ?_)
      refine q_blk_hit (h := ?_)
      refine q_seq (h := ?_)
      refine sq (h := ?_)
      refine sq (h := ?_)
      refine rg (h := ?_)
      refine WL.y (hy := asg) (h := ?_)
      refine WL.cut (by repeat (first | exact Cut.nil | apply Cut.hit | apply Cut.miss (by exact rfl))) ?_
      refine nl (h := ?_)
      refine q_seq (h := ?_)
      refine bk (h := ?_)
      refine lp (X := Nat) (I := fun k => k ≤ p.jobs.length ∧ ∀ i j, i < k → p.jobs[i]? = some j → JOk p.jobs.length i j) (le := fun k => [(1, .pointer (some ⟨b0, 0, none⟩)), (6, .int .i64 k)]) (Le := fun _ => [.blk b0 25 p.cells, .ro p.jA 6 p.jobs.length (encJb p.jobs)]) (μ := fun k => p.jobs.length - k) 0 ⟨Nat.zero_le _, fun _ _ g9 => absurd g9 (Nat.not_lt_zero _)⟩ (by repeat (first | exact trivial | refine ⟨rfl, ?_⟩)) (by repeat (first | exact SubL.nil | (apply SubL.cons; (repeat (first | exact At.here | apply At.there))) | exact SubL.refl _ | apply SubL.skip)) (fun k hk => ?_)
      obtain ⟨hkL, hkJ⟩ := hk
      refine sq (h := ?_)
      refine sq (h := ?_)
      refine rg (h := ?_)
      refine WL.y (hy := mv) (h := ?_)
      refine WL.y (hy := (by first | exact fa | exact faE)) (h := ?_)
      refine WL.y (hy := (by first | exact ld | exact ldE)) (h := ?_)
      refine WL.y (hy := lenS) (h := ?_)
      refine WL.y (hy := lss) (h := ?_)
      refine nl (h := ?_)
      refine q_seq (h := ?_)
      refine cd (by exact rfl) (fun h10 => ?_) (fun h10 => ?_)
      · skip
        have hkn : k < p.jobs.length := by have := of_decide_eq_true h10; omega
        obtain ⟨j, hj⟩ : ∃ j, p.jobs[k]? = some j := ⟨_, List.getElem?_eq_getElem hkn⟩
        have hjm := List.mem_of_getElem? hj
        refine skp (h := ?_)
        refine q_seq (h := ?_)
        refine sq (h := ?_)
        refine bk (h := ?_)
        refine sq (h := ?_)
        refine WC.old (h.f j hjm) ?_
        refine WC.old (h.w j hjm) ?_
        refine rgD (by kernel_rfl) [(1000000, .blk b0 25 p.cells), (1000000, .ro p.jA 6 p.jobs.length (encJb p.jobs))] (by repeat (first | exact HS.nil | (apply HS.keep; (repeat (first | exact At.here | apply At.there))) | (apply HS.ro; (repeat (first | exact Rds.ro | exact Rds.own | apply Rds.there))))) (h := ?_)
        refine tk 0 (hy := (by first | exact fa | exact faE)) (h := ?_)
        refine tk 1 (hy := (by first | exact ld | exact ldE)) (h := ?_)
        refine tk 2 (hy := mv) (h := ?_)
        refine tk 3 (hy := ix (A := p.jA) (m := p.jobs.length) (hb := by omega)) (h := ?_)
        refine tk 4 (hy := ldEW (A := p.jA) (hk := encJb_at hj)) (h := ?_)
        refine tk 5 (hy := mv) (h := ?_)
        refine tk 6 (hy := (by first | exact fa | exact faE)) (h := ?_)
        refine tk 7 (hy := (by first | exact ld | exact ldE)) (h := ?_)
        refine tk 8 (hy := lenS) (h := ?_)
        refine one 9 (h := ?_)
        refine cl (hc := fun w hS => C_ref8_isJob j k p.jobs.length (by omega) (by omega) (hn.fn j hjm) (hn.wn j hjm) w (hS.get (by repeat (first | exact Rds.ro | exact Rds.own | apply Rds.there))) (hS.get (by repeat (first | exact Rds.ro | exact Rds.own | apply Rds.there)))) (h := fun b hb => ?_)
        refine nx (h := ?_)
        refine tk 10 (hy := notB) (h := ?_)
        refine dn (h := ?_)
        refine q_seq (h := ?_)
        refine cd (by exact rfl) (fun h11 => ?_) (fun h11 => ?_)
        · skip
          refine sq (h := ?_)
          refine rg (h := ?_)
          refine WL.y (hy := asg) (h := ?_)
          refine WL.cut (by repeat (first | exact Cut.nil | apply Cut.hit | apply Cut.miss (by exact rfl))) ?_
          refine nl (h := ?_)
          refine q_seq (h := ?_)
          refine rtn (h := ?_)
          refine q_blk_ret (h := ?_)
          refine q_then_ret (h := ?_)
          refine q_then_ret (h := ?_)
          refine q_blk_ret (h := ?_)
          refine q_then_ret (h := ?_)
          refine q_ret (hR := ?_)
          first
            | exact fun w hS => ⟨0, fun _ => ⟨by omega, hre, by omega, by omega, fun k d g8 g9 => ⟨(hkD k d g8 g9).n, (hkD k d g8 g9).s⟩, hkJ⟩, rfl, hS.sub (by repeat (first | exact SubL.nil | (apply SubL.cons; (repeat (first | exact At.here | apply At.there))) | exact SubL.refl _ | apply SubL.skip))⟩
            | exact fun w hS => ⟨80, fun g9 => absurd g9 (by decide), rfl, hS.sub (by repeat (first | exact SubL.nil | (apply SubL.cons; (repeat (first | exact At.here | apply At.there))) | exact SubL.refl _ | apply SubL.skip))⟩
        · skip
          have hjo : JOk p.jobs.length k j := hb (by have g9 := h11; rwa [Bool.not_eq_false'] at g9)
          refine skp (h := ?_)
          refine q_blk_norm (h := ?_)
          refine q_seq (h := ?_)
          refine rg (h := ?_)
          refine WL.y (hy := mv) (h := ?_)
          refine WL.y (hy := addI) (h := ?_)
          refine WL.y (hy := asg) (h := ?_)
          refine WL.cut (by repeat (first | exact Cut.nil | apply Cut.hit | apply Cut.miss (by exact rfl))) ?_
          refine nl (h := ?_)
          refine rn (x := k) (k + 1) ⟨hkn, fun i' j' g8 g9 => by
            by_cases e : i' = k
            · subst e; rw [hj] at g9; cases g9; exact hjo
            · exact hkJ i' j' (by omega) g9⟩ (by omega) (by repeat (first | exact trivial | refine ⟨rfl, ?_⟩)) (by repeat (first | exact SubL.nil | (apply SubL.cons; (repeat (first | exact At.here | apply At.there))) | exact SubL.refl _ | apply SubL.skip))
      · skip
        have hkn : k = p.jobs.length := by have := of_decide_eq_false h10; omega
        rw [hkn] at hkJ
        refine et (h := ?_)
        refine q_then_exit (h := ?_)
        refine q_then_exit (h := ?_)
        refine q_blk_hit (h := ?_)
        refine q_seq (h := ?_)
        refine sq (h := ?_)
        refine rg (h := ?_)
        refine WL.y (hy := asg) (h := ?_)
        refine WL.cut (by repeat (first | exact Cut.nil | apply Cut.hit | apply Cut.miss (by exact rfl))) ?_
        refine nl (h := ?_)
        refine q_seq (h := ?_)
        refine rtn (h := ?_)
        refine q_ret (hR := ?_)
        first
          | exact fun w hS => ⟨0, fun _ => ⟨by omega, hre, by omega, by omega, fun k d g8 g9 => ⟨(hkD k d g8 g9).n, (hkD k d g8 g9).s⟩, hkJ⟩, rfl, hS.sub (by repeat (first | exact SubL.nil | (apply SubL.cons; (repeat (first | exact At.here | apply At.there))) | exact SubL.refl _ | apply SubL.skip))⟩
          | exact fun w hS => ⟨80, fun g9 => absurd g9 (by decide), rfl, hS.sub (by repeat (first | exact SubL.nil | (apply SubL.cons; (repeat (first | exact At.here | apply At.there))) | exact SubL.refl _ | apply SubL.skip))⟩
def hasB (l : List Se) (job : Int) : Bool := l.any fun t => decide (t.job = job)
theorem hasB_no {l : List Se} {job : Int} {k : Nat} {t : Se} (h : hasB (l.take k) job = false) (ht : l[k]? = some t) (hne : ¬ t.job = job) : hasB (l.take (k + 1)) job = false := by
  unfold hasB at h ⊢
  rw [List.take_add_one, ht, List.any_append, h]
  simp [hne]
theorem C_ref8_has (l : List Se) (job : Int) (A : Option Addr) (n c : Nat) (hn : n ≤ 9223372036854775807) (w : World) (h : Rd w A 3 n (encSe l)) : C0 Try.prog 39 [.slice A n c, .int .i64 job] w (.bool (hasB l job)) := by
  have hlen : l.length = n := by have := h.len; rwa [encSe_len] at this
  refine ⟨en Try.func39 Try.ntmps39 ((St.init w).share (e := .ro A 3 n (encSe l)) h rfl rfl rfl) (h := fun F => ?_)⟩
  refine sq (h := ?_)
  refine rg (h := ?_)
  refine WL.y (hy := asg) (h := ?_)
  refine WL.cut (by repeat (first | exact Cut.nil | apply Cut.hit | apply Cut.miss (by exact rfl))) ?_
  refine nl (h := ?_)
  refine q_seq (h := ?_)
  refine sq (h := ?_)
  refine sq (h := ?_)
  refine rg (h := ?_)
  refine WL.y (hy := asg) (h := ?_)
  refine WL.cut (by repeat (first | exact Cut.nil | apply Cut.hit | apply Cut.miss (by exact rfl))) ?_
  refine nl (h := ?_)
  refine q_seq (h := ?_)
  refine bk (h := ?_)
  refine lp (X := Nat) (I := fun k => k ≤ n ∧ hasB (l.take k) job = false) (le := fun k => [(0, .slice A n c), (1, .int .i64 job), (5, .int .i64 k)]) (Le := fun _ => [.ro A 3 n (encSe l)]) (μ := fun k => n - k) 0 ⟨Nat.zero_le _, rfl⟩ (by repeat (first | exact trivial | refine ⟨rfl, ?_⟩)) (by repeat (first | exact SubL.nil | (apply SubL.cons; (repeat (first | exact At.here | apply At.there))) | exact SubL.refl _ | apply SubL.skip)) (fun k hk => ?_)
  obtain ⟨hkL, hkH⟩ := hk
  refine sq (h := ?_)
  refine sq (h := ?_)
  refine rg (h := ?_)
  refine WL.y (hy := mv) (h := ?_)
  refine WL.y (hy := mv) (h := ?_)
  refine WL.y (hy := lenS) (h := ?_)
  refine WL.y (hy := lss) (h := ?_)
  refine nl (h := ?_)
  refine q_seq (h := ?_)
  refine cd (by exact rfl) (fun h0 => ?_) (fun h0 => ?_)
  · skip
    have hkn : k < n := by have := of_decide_eq_true h0; omega
    obtain ⟨t, ht⟩ : ∃ t, l[k]? = some t := ⟨_, List.getElem?_eq_getElem (by omega)⟩
    refine skp (h := ?_)
    refine q_seq (h := ?_)
    refine sq (h := ?_)
    refine bk (h := ?_)
    refine sq (h := ?_)
    refine rg (h := ?_)
    refine WL.y (hy := mv) (h := ?_)
    refine WL.y (hy := mv) (h := ?_)
    refine WL.y (hy := ix (A := A) (m := n) (hb := by omega)) (h := ?_)
    refine WL.y (hy := (by first | exact fa | exact faE)) (h := ?_)
    refine WL.y (hy := ldE (A := A) (hk := encSe_at ht)) (h := ?_)
    refine WL.y (hy := mv) (h := ?_)
    refine WL.y (hy := eql) (h := ?_)
    refine nl (h := ?_)
    refine q_seq (h := ?_)
    refine cd (by exact rfl) (fun h1 => ?_) (fun h1 => ?_)
    · skip
      have hE : hasB l job = true := List.any_eq_true.2 ⟨t, List.mem_of_getElem? ht, h1⟩
      refine sq (h := ?_)
      refine rg (h := ?_)
      refine WL.y (hy := asg) (h := ?_)
      refine WL.cut (by repeat (first | exact Cut.nil | apply Cut.hit | apply Cut.miss (by exact rfl))) ?_
      refine nl (h := ?_)
      refine q_seq (h := ?_)
      refine rtn (h := ?_)
      refine q_blk_ret (h := ?_)
      refine q_then_ret (h := ?_)
      refine q_then_ret (h := ?_)
      refine q_blk_ret (h := ?_)
      refine q_then_ret (h := ?_)
      refine q_ret (hR := ?_)
      rw [hE]
      exact fun w hS => ⟨rfl, hS.sub (by repeat (first | exact SubL.nil | (apply SubL.cons; (repeat (first | exact At.here | apply At.there))) | exact SubL.refl _ | apply SubL.skip))⟩
    · skip
      have hkH2 := hasB_no hkH ht (of_decide_eq_false h1)
      refine skp (h := ?_)
      refine q_blk_norm (h := ?_)
      refine q_seq (h := ?_)
      refine rg (h := ?_)
      refine WL.y (hy := mv) (h := ?_)
      refine WL.y (hy := addI) (h := ?_)
      refine WL.y (hy := asg) (h := ?_)
      refine WL.cut (by repeat (first | exact Cut.nil | apply Cut.hit | apply Cut.miss (by exact rfl))) ?_
      refine nl (h := ?_)
      refine rn (x := k) (k + 1) ⟨hkn, hkH2⟩ (by omega) (by repeat (first | exact trivial | refine ⟨rfl, ?_⟩)) (by repeat (first | exact SubL.nil | (apply SubL.cons; (repeat (first | exact At.here | apply At.there))) | exact SubL.refl _ | apply SubL.skip))
  · skip
    have hkn : k = n := by have := of_decide_eq_false h0; omega
    have hE : hasB l job = false := by rw [← hkH, hkn, ← hlen, List.take_length]
    refine et (h := ?_)
    refine q_then_exit (h := ?_)
    refine q_then_exit (h := ?_)
    refine q_blk_hit (h := ?_)
    refine q_seq (h := ?_)
    refine sq (h := ?_)
    refine rg (h := ?_)
    refine WL.y (hy := asg) (h := ?_)
    refine WL.cut (by repeat (first | exact Cut.nil | apply Cut.hit | apply Cut.miss (by exact rfl))) ?_
    refine nl (h := ?_)
    refine q_seq (h := ?_)
    refine rtn (h := ?_)
    refine q_ret (hR := ?_)
    rw [hE]
    exact fun w hS => ⟨rfl, hS.sub (by repeat (first | exact SubL.nil | (apply SubL.cons; (repeat (first | exact At.here | apply At.there))) | exact SubL.refl _ | apply SubL.skip))⟩
end Go.Proofs.Ytngelilffleimaa

namespace Go.Proofs.Ytngelilffleimaa
open Go Go.RowKit

theorem hasB_iff {l : List Se} {job : Int} : hasB l job = true ↔ ∃ t ∈ l, t.job = job := by
  unfold hasB
  rw [List.any_eq_true]
  exact ⟨fun ⟨t, h1, h2⟩ => ⟨t, h1, of_decide_eq_true h2⟩, fun ⟨t, h1, h2⟩ => ⟨t, h1, decide_eq_true h2⟩⟩
set_option maxRecDepth 100000 in
set_option maxHeartbeats 1000000 in
theorem C_ref8_MayCome (p : Pg) (hp : POk p) (l : List Se) (s : Se) (A : Option Addr) (n c : Nat) (hn : n ≤ 9223372036854775807) (w : World) (h : PgR w p) (hl : Rd w A 3 n (encSe l)) :
    CR Try.prog 19 [p.val, .slice A n c, s.val] w (fun b : Bool => b = true ↔ MayC p l s) (fun b => .bool b) (fun _ => []) := by
  have hlen : l.length = n := by have := hl.len; rwa [encSe_len] at this
  have hnd := hp.nd
  have hnj := hp.nj
  have hnc := hp.nc
  obtain ⟨d0, hd0⟩ : ∃ d, p.days[0]? = some d := ⟨_, List.getElem?_eq_getElem (by omega)⟩
  have hn0 := nc_first hd0
  refine ⟨en Try.func19 Try.ntmps19 ((((St.init w).share (e := .ro p.dA 1 p.days.length (encDy p.days)) h.d rfl rfl rfl).share (e := .ro p.jA 6 p.jobs.length (encJb p.jobs)) h.j rfl rfl rfl).share (e := .ro A 3 n (encSe l)) hl rfl rfl rfl) (h := fun F => ?_)⟩
  refine sq (h := ?_)
  refine rg (h := ?_)
  refine bxA (h := fun b0 => ?_)
  refine bxA (h := fun b1 => ?_)
  refine WL.y (hy := asg) (h := ?_)
  refine WL.cut (by repeat (first | exact Cut.nil | apply Cut.hit | apply Cut.miss (by exact rfl))) ?_
  refine nl (h := ?_)
  refine q_seq (h := ?_)
  refine sq (h := ?_)
  refine sq (h := ?_)
  refine rgD0 (by kernel_rfl) (h := ?_)
  refine tk 0 (hy := (by first | exact fa | exact faE)) (h := ?_)
  refine tk 1 (hy := (by first | exact ld | exact ldE)) (h := ?_)
  refine tk 2 (hy := (by first | exact fa | exact faE)) (h := ?_)
  refine tk 3 (hy := (by first | exact ld | exact ldE)) (h := ?_)
  refine tk 4 (hy := lenS) (h := ?_)
  refine tk 5 (hy := subI (hb := by omega)) (h := ?_)
  refine one 6 (h := ?_)
  refine cl0 (hc := fun w hS => C_ref8_within s.job 0 ((p.jobs.length : Int) - 1) w) (h := ?_)
  refine nx (h := ?_)
  refine tk 7 (hy := notB) (h := ?_)
  refine tk 8 (hy := mv) (h := ?_)
  refine brH (g := 17) (by exact rfl) (fun hb0 => ?_) (fun hb0 => ?_)
  · skip
    have hno : ¬ MayC p l s := fun hm => by
      have g9 := hm.job
      have g8 : win s.job 0 ((p.jobs.length : Int) - 1) = true := win_iff.2 (by omega)
      have g7 := hb0
      rw [g8] at g7; exact absurd g7 (by decide)
    refine tkS 9 (h := ?_)
    refine tkS 10 (h := ?_)
    refine tkS 11 (h := ?_)
    refine tkS 12 (h := ?_)
    refine tk 13 (hy := (by first | exact pkT | exact pkF)) (h := ?_)
    refine tk 14 (hy := mv) (h := ?_)
    refine tkS 15 (h := ?_)
    refine tkS 16 (h := ?_)
    refine tkS 17 (h := ?_)
    refine tkS 18 (h := ?_)
    refine tkS 19 (h := ?_)
    refine tkS 20 (h := ?_)
    refine tkS 21 (h := ?_)
    refine tkS 22 (h := ?_)
    refine tkS 23 (h := ?_)
    refine tkS 24 (h := ?_)
    refine tkS 25 (h := ?_)
    refine tkS 26 (h := ?_)
    refine tkS 27 (h := ?_)
    refine tkS 28 (h := ?_)
    refine tkS 29 (h := ?_)
    refine tkS 30 (h := ?_)
    refine tk 31 (hy := (by first | exact pkT | exact pkF)) (h := ?_)
    refine tk 32 (hy := mv) (h := ?_)
    refine tkS 33 (h := ?_)
    refine tkS 34 (h := ?_)
    refine tkS 35 (h := ?_)
    refine tkS 36 (h := ?_)
    refine tkS 37 (h := ?_)
    refine tkS 38 (h := ?_)
    refine tkS 39 (h := ?_)
    refine tkS 40 (h := ?_)
    refine tkS 41 (h := ?_)
    refine tkS 42 (h := ?_)
    refine tk 43 (hy := (by first | exact pkT | exact pkF)) (h := ?_)
    refine dn (h := ?_)
    refine q_seq (h := ?_)
    refine cdT (h := ?_)
    first
      | have hno1 : ¬ MayC p l s := hno
      | (have hno : ¬ MayC p l s := fun hm => by
           have g9 := hm.court
           have g8 : win s.court 0 ((d0.sp.length : Int) - 1) = true := win_iff.2 (by omega)
           have g7 : (!win s.court 0 ((d0.sp.length : Int) - 1)) = true := by assumption
           rw [g8] at g7; exact absurd g7 (by decide))
    refine sq (h := ?_)
    refine rg (h := ?_)
    refine WL.y (hy := asg) (h := ?_)
    refine WL.cut (by repeat (first | exact Cut.nil | apply Cut.hit | apply Cut.miss (by exact rfl))) ?_
    refine nl (h := ?_)
    refine q_seq (h := ?_)
    refine rtn (h := ?_)
    refine q_then_ret (h := ?_)
    refine q_ret (hR := ?_)
    first
      | exact fun w hS => ⟨false, ⟨fun h9 => (by cases h9), fun hm => absurd hm hno⟩, rfl, hS.sub (by repeat (first | exact SubL.nil | (apply SubL.cons; (repeat (first | exact At.here | apply At.there))) | exact SubL.refl _ | apply SubL.skip))⟩
      | exact fun w hS => ⟨true, ⟨fun _ => ⟨by omega, fun t ht he => absurd (hw2.symm.trans (hasB_iff.2 ⟨t, ht, he⟩)) (by decide), by omega, fun j' hj' => by rw [hj] at hj'; cases hj'; omega, by omega, fun t ht => by
          obtain ⟨i', g8, e⟩ := List.mem_iff_getElem.1 ht
          exact hkD i' t (by omega) (by rw [List.getElem?_eq_getElem g8, e]), fun j' hj' x hx => by
          rw [hj] at hj'; cases hj'
          obtain ⟨i', g8, e⟩ := List.mem_iff_getElem.1 hx
          exact hasB_iff.1 (hiD i' x (by omega) (by rw [List.getElem?_eq_getElem g8, e]))⟩, fun _ => rfl⟩, rfl, hS.sub (by repeat (first | exact SubL.nil | (apply SubL.cons; (repeat (first | exact At.here | apply At.there))) | exact SubL.refl _ | apply SubL.skip))⟩
  · skip
    have hw1 := win_no hb0
    obtain ⟨j, hj⟩ : ∃ j, p.jobs[s.job.toNat]? = some j := ⟨_, List.getElem?_eq_getElem (by omega)⟩
    have hjm := List.mem_of_getElem? hj
    have hjo := hp.jb _ j (by omega) hj
    have hjd := hjo.due
    refine tk 9 (hy := mv) (h := ?_)
    refine tk 10 (hy := (by first | exact fa | exact faE)) (h := ?_)
    refine tk 11 (hy := (by first | exact ld | exact ldE)) (h := ?_)
    refine one 12 (h := ?_)
    refine un (h := ?_)
    refine cl0 (hc := fun w hS => C_ref8_has l s.job A n c hn w (hS.get (by repeat (first | exact Rds.ro | exact Rds.own | apply Rds.there)))) (h := ?_)
    refine nx (h := ?_)
    refine tk 13 (hy := (by first | exact pkT | exact pkF)) (h := ?_)
    refine tk 14 (hy := mv) (h := ?_)
    refine brH (g := 23) (by exact rfl) (fun hb2 => ?_) (fun hb2 => ?_)
    · skip
      have hno : ¬ MayC p l s := fun hm => by
        obtain ⟨t, ht, he⟩ := hasB_iff.1 (show hasB l s.job = true from hb2)
        exact hm.new t ht he
      refine tkS 15 (h := ?_)
      refine tkS 16 (h := ?_)
      refine tkS 17 (h := ?_)
      refine tkS 18 (h := ?_)
      refine tkS 19 (h := ?_)
      refine tkS 20 (h := ?_)
      refine tkS 21 (h := ?_)
      refine tkS 22 (h := ?_)
      refine tkS 23 (h := ?_)
      refine tkS 24 (h := ?_)
      refine tkS 25 (h := ?_)
      refine tkS 26 (h := ?_)
      refine tkS 27 (h := ?_)
      refine tkS 28 (h := ?_)
      refine tkS 29 (h := ?_)
      refine tkS 30 (h := ?_)
      refine tk 31 (hy := (by first | exact pkT | exact pkF)) (h := ?_)
      refine tk 32 (hy := mv) (h := ?_)
      refine tkS 33 (h := ?_)
      refine tkS 34 (h := ?_)
      refine tkS 35 (h := ?_)
      refine tkS 36 (h := ?_)
      refine tkS 37 (h := ?_)
      refine tkS 38 (h := ?_)
      refine tkS 39 (h := ?_)
      refine tkS 40 (h := ?_)
      refine tkS 41 (h := ?_)
      refine tkS 42 (h := ?_)
      refine tk 43 (hy := (by first | exact pkT | exact pkF)) (h := ?_)
      refine dn (h := ?_)
      refine q_seq (h := ?_)
      refine cdT (h := ?_)
      first
        | have hno1 : ¬ MayC p l s := hno
        | (have hno : ¬ MayC p l s := fun hm => by
             have g9 := hm.court
             have g8 : win s.court 0 ((d0.sp.length : Int) - 1) = true := win_iff.2 (by omega)
             have g7 : (!win s.court 0 ((d0.sp.length : Int) - 1)) = true := by assumption
             rw [g8] at g7; exact absurd g7 (by decide))
      refine sq (h := ?_)
      refine rg (h := ?_)
      refine WL.y (hy := asg) (h := ?_)
      refine WL.cut (by repeat (first | exact Cut.nil | apply Cut.hit | apply Cut.miss (by exact rfl))) ?_
      refine nl (h := ?_)
      refine q_seq (h := ?_)
      refine rtn (h := ?_)
      refine q_then_ret (h := ?_)
      refine q_ret (hR := ?_)
      first
        | exact fun w hS => ⟨false, ⟨fun h9 => (by cases h9), fun hm => absurd hm hno⟩, rfl, hS.sub (by repeat (first | exact SubL.nil | (apply SubL.cons; (repeat (first | exact At.here | apply At.there))) | exact SubL.refl _ | apply SubL.skip))⟩
        | exact fun w hS => ⟨true, ⟨fun _ => ⟨by omega, fun t ht he => absurd (hw2.symm.trans (hasB_iff.2 ⟨t, ht, he⟩)) (by decide), by omega, fun j' hj' => by rw [hj] at hj'; cases hj'; omega, by omega, fun t ht => by
            obtain ⟨i', g8, e⟩ := List.mem_iff_getElem.1 ht
            exact hkD i' t (by omega) (by rw [List.getElem?_eq_getElem g8, e]), fun j' hj' x hx => by
            rw [hj] at hj'; cases hj'
            obtain ⟨i', g8, e⟩ := List.mem_iff_getElem.1 hx
            exact hasB_iff.1 (hiD i' x (by omega) (by rw [List.getElem?_eq_getElem g8, e]))⟩, fun _ => rfl⟩, rfl, hS.sub (by repeat (first | exact SubL.nil | (apply SubL.cons; (repeat (first | exact At.here | apply At.there))) | exact SubL.refl _ | apply SubL.skip))⟩
    · skip
      have hw2 : hasB l s.job = false := hb2
      refine tk 15 (hy := (by first | exact fa | exact faE)) (h := ?_)
      refine tk 16 (hy := (by first | exact ld | exact ldE)) (h := ?_)
      refine tk 17 (hy := (by first | exact fa | exact faE)) (h := ?_)
      refine tk 18 (hy := (by first | exact ld | exact ldE)) (h := ?_)
      refine tk 19 (hy := lenS) (h := ?_)
      refine tk 20 (hy := subI (hb := by omega)) (h := ?_)
      refine tk 21 (hy := (by first | exact fa | exact faE)) (h := ?_)
      refine tk 22 (hy := (by first | exact ld | exact ldE)) (h := ?_)
      refine tk 23 (hy := (by first | exact fa | exact faE)) (h := ?_)
      refine tk 24 (hy := (by first | exact ld | exact ldE)) (h := ?_)
      refine tk 25 (hy := ix (A := p.jA) (m := p.jobs.length) (hb := by omega)) (h := ?_)
      refine tk 26 (hy := (by first | exact fa | exact faE)) (h := ?_)
      refine tk 27 (hy := ldE (A := p.jA) (hk := encJb_at hj)) (h := ?_)
      refine tk 28 (hy := minI) (h := ?_)
      refine one 29 (h := ?_)
      refine un (h := ?_)
      refine cl0 (hc := fun w hS => C_ref8_within s.day 0 (min ((p.days.length : Int) - 1) j.due) w) (h := ?_)
      refine nx (h := ?_)
      refine tk 30 (hy := notB) (h := ?_)
      refine tk 31 (hy := (by first | exact pkT | exact pkF)) (h := ?_)
      refine tk 32 (hy := mv) (h := ?_)
      refine brH (g := 41) (by exact rfl) (fun hb4 => ?_) (fun hb4 => ?_)
      · skip
        have hno : ¬ MayC p l s := fun hm => by
          have g9 := hm.day
          have g6 := hm.due j hj
          have g8 : win s.day 0 (min ((p.days.length : Int) - 1) j.due) = true := win_iff.2 (by omega)
          have g7 := hb4
          rw [g8] at g7; exact absurd g7 (by decide)
        refine tkS 33 (h := ?_)
        refine tkS 34 (h := ?_)
        refine tkS 35 (h := ?_)
        refine tkS 36 (h := ?_)
        refine tkS 37 (h := ?_)
        refine tkS 38 (h := ?_)
        refine tkS 39 (h := ?_)
        refine tkS 40 (h := ?_)
        refine tkS 41 (h := ?_)
        refine tkS 42 (h := ?_)
        refine tk 43 (hy := (by first | exact pkT | exact pkF)) (h := ?_)
        refine dn (h := ?_)
        refine q_seq (h := ?_)
        refine cdT (h := ?_)
        first
          | have hno1 : ¬ MayC p l s := hno
          | (have hno : ¬ MayC p l s := fun hm => by
               have g9 := hm.court
               have g8 : win s.court 0 ((d0.sp.length : Int) - 1) = true := win_iff.2 (by omega)
               have g7 : (!win s.court 0 ((d0.sp.length : Int) - 1)) = true := by assumption
               rw [g8] at g7; exact absurd g7 (by decide))
        refine sq (h := ?_)
        refine rg (h := ?_)
        refine WL.y (hy := asg) (h := ?_)
        refine WL.cut (by repeat (first | exact Cut.nil | apply Cut.hit | apply Cut.miss (by exact rfl))) ?_
        refine nl (h := ?_)
        refine q_seq (h := ?_)
        refine rtn (h := ?_)
        refine q_then_ret (h := ?_)
        refine q_ret (hR := ?_)
        first
          | exact fun w hS => ⟨false, ⟨fun h9 => (by cases h9), fun hm => absurd hm hno⟩, rfl, hS.sub (by repeat (first | exact SubL.nil | (apply SubL.cons; (repeat (first | exact At.here | apply At.there))) | exact SubL.refl _ | apply SubL.skip))⟩
          | exact fun w hS => ⟨true, ⟨fun _ => ⟨by omega, fun t ht he => absurd (hw2.symm.trans (hasB_iff.2 ⟨t, ht, he⟩)) (by decide), by omega, fun j' hj' => by rw [hj] at hj'; cases hj'; omega, by omega, fun t ht => by
              obtain ⟨i', g8, e⟩ := List.mem_iff_getElem.1 ht
              exact hkD i' t (by omega) (by rw [List.getElem?_eq_getElem g8, e]), fun j' hj' x hx => by
              rw [hj] at hj'; cases hj'
              obtain ⟨i', g8, e⟩ := List.mem_iff_getElem.1 hx
              exact hasB_iff.1 (hiD i' x (by omega) (by rw [List.getElem?_eq_getElem g8, e]))⟩, fun _ => rfl⟩, rfl, hS.sub (by repeat (first | exact SubL.nil | (apply SubL.cons; (repeat (first | exact At.here | apply At.there))) | exact SubL.refl _ | apply SubL.skip))⟩
      · skip
        have hw3 := win_no hb4
        refine tk 33 (hy := (by first | exact fa | exact faE)) (h := ?_)
        refine tk 34 (hy := (by first | exact ld | exact ldE)) (h := ?_)
        refine tk 35 (hy := (by first | exact fa | exact faE)) (h := ?_)
        refine tk 36 (hy := (by first | exact ld | exact ldE)) (h := ?_)
        refine tk 37 (hy := ix (A := p.dA) (m := p.days.length) (hb := by omega)) (h := ?_)
        refine tk 38 (hy := ldE (A := p.dA) (k := 0) (hk := encDy_at hd0)) (h := ?_)
        refine tk 39 (hy := lenS) (h := ?_)
        refine tk 40 (hy := subI (hb := by omega)) (h := ?_)
        refine one 41 (h := ?_)
        refine un (h := ?_)
        refine cl0 (hc := fun w hS => C_ref8_within s.court 0 ((d0.sp.length : Int) - 1) w) (h := ?_)
        refine nx (h := ?_)
        refine tk 42 (hy := notB) (h := ?_)
        refine tk 43 (hy := (by first | exact pkT | exact pkF)) (h := ?_)
        refine dn (h := ?_)
        refine q_seq (h := ?_)
        refine cd (by exact rfl) (fun h6 => ?_) (fun h6 => ?_)
        · skip
          first
            | have hno1 : ¬ MayC p l s := hno
            | (have hno : ¬ MayC p l s := fun hm => by
                 have g9 := hm.court
                 have g8 : win s.court 0 ((d0.sp.length : Int) - 1) = true := win_iff.2 (by omega)
                 have g7 : (!win s.court 0 ((d0.sp.length : Int) - 1)) = true := by assumption
                 rw [g8] at g7; exact absurd g7 (by decide))
          refine sq (h := ?_)
          refine rg (h := ?_)
          refine WL.y (hy := asg) (h := ?_)
          refine WL.cut (by repeat (first | exact Cut.nil | apply Cut.hit | apply Cut.miss (by exact rfl))) ?_
          refine nl (h := ?_)
          refine q_seq (h := ?_)
          refine rtn (h := ?_)
          refine q_then_ret (h := ?_)
          refine q_ret (hR := ?_)
          first
            | exact fun w hS => ⟨false, ⟨fun h9 => (by cases h9), fun hm => absurd hm hno⟩, rfl, hS.sub (by repeat (first | exact SubL.nil | (apply SubL.cons; (repeat (first | exact At.here | apply At.there))) | exact SubL.refl _ | apply SubL.skip))⟩
            | exact fun w hS => ⟨true, ⟨fun _ => ⟨by omega, fun t ht he => absurd (hw2.symm.trans (hasB_iff.2 ⟨t, ht, he⟩)) (by decide), by omega, fun j' hj' => by rw [hj] at hj'; cases hj'; omega, by omega, fun t ht => by
                obtain ⟨i', g8, e⟩ := List.mem_iff_getElem.1 ht
                exact hkD i' t (by omega) (by rw [List.getElem?_eq_getElem g8, e]), fun j' hj' x hx => by
                rw [hj] at hj'; cases hj'
                obtain ⟨i', g8, e⟩ := List.mem_iff_getElem.1 hx
                exact hasB_iff.1 (hiD i' x (by omega) (by rw [List.getElem?_eq_getElem g8, e]))⟩, fun _ => rfl⟩, rfl, hS.sub (by repeat (first | exact SubL.nil | (apply SubL.cons; (repeat (first | exact At.here | apply At.there))) | exact SubL.refl _ | apply SubL.skip))⟩
        · skip
          have hw4 := win_no h6
          refine WC.old (h.f j hjm) ?_
          refine skp (h := ?_)
          refine q_seq (h := ?_)
          refine sq (h := ?_)
          refine sq (h := ?_)
          refine rg (h := ?_)
          refine WL.y (hy := asg) (h := ?_)
          refine WL.cut (by repeat (first | exact Cut.nil | apply Cut.hit | apply Cut.miss (by exact rfl))) ?_
          refine nl (h := ?_)
          refine q_seq (h := ?_)
          refine bk (h := ?_)
          refine lp (X := Nat) (I := fun k => k ≤ n ∧ ∀ i t, i < k → l[i]? = some t → t.day ≤ s.day) (le := fun k => [(1, .slice A n c), (3, .pointer (some ⟨b0, 0, none⟩)), (5, .pointer (some ⟨b1, 0, none⟩)), (7, .int .i64 k)]) (Le := fun _ => [.blk b0 25 p.cells, .blk b1 41 s.cells, .ro p.jA 6 p.jobs.length (encJb p.jobs), .ro A 3 n (encSe l), .ro j.fA 1 j.af.length (enI j.af)]) (μ := fun k => n - k) 0 ⟨Nat.zero_le _, fun _ _ g9 => absurd g9 (Nat.not_lt_zero _)⟩ (by repeat (first | exact trivial | refine ⟨rfl, ?_⟩)) (by repeat (first | exact SubL.nil | (apply SubL.cons; (repeat (first | exact At.here | apply At.there))) | exact SubL.refl _ | apply SubL.skip)) (fun k hk => ?_)
          obtain ⟨hkL, hkD⟩ := hk
          refine sq (h := ?_)
          refine sq (h := ?_)
          refine rg (h := ?_)
          refine WL.y (hy := mv) (h := ?_)
          refine WL.y (hy := mv) (h := ?_)
          refine WL.y (hy := lenS) (h := ?_)
          refine WL.y (hy := lss) (h := ?_)
          refine nl (h := ?_)
          refine q_seq (h := ?_)
          refine cd (by exact rfl) (fun h7 => ?_) (fun h7 => ?_)
          · skip
            have hkn : k < n := by have := of_decide_eq_true h7; omega
            obtain ⟨t, ht⟩ : ∃ t, l[k]? = some t := ⟨_, List.getElem?_eq_getElem (by omega)⟩
            refine skp (h := ?_)
            refine q_seq (h := ?_)
            refine sq (h := ?_)
            refine bk (h := ?_)
            refine sq (h := ?_)
            refine rgD (by kernel_rfl) [(1000000, .blk b1 41 s.cells), (1000000, .ro A 3 n (encSe l))] (by repeat (first | exact HS.nil | (apply HS.keep; (repeat (first | exact At.here | apply At.there))) | (apply HS.ro; (repeat (first | exact Rds.ro | exact Rds.own | apply Rds.there))))) (h := ?_)
            refine tk 0 (hy := mv) (h := ?_)
            refine tk 1 (hy := mv) (h := ?_)
            refine tk 2 (hy := ix (A := A) (m := n) (hb := by omega)) (h := ?_)
            refine tk 3 (hy := (by first | exact fa | exact faE)) (h := ?_)
            refine tk 4 (hy := ldE (A := A) (hk := encSe_at ht)) (h := ?_)
            refine tk 5 (hy := (by first | exact fa | exact faE)) (h := ?_)
            refine tk 6 (hy := (by first | exact ld | exact ldE)) (h := ?_)
            refine tk 7 (hy := gtr) (h := ?_)
            refine dn (h := ?_)
            refine q_seq (h := ?_)
            refine cd (by exact rfl) (fun h8 => ?_) (fun h8 => ?_)
            · skip
              have hno : ¬ MayC p l s := fun hm => by
                have g9 := hm.days t (List.mem_of_getElem? ht)
                have g8 := of_decide_eq_true h8
                omega
              refine sq (h := ?_)
              refine rg (h := ?_)
              refine WL.y (hy := asg) (h := ?_)
              refine WL.cut (by repeat (first | exact Cut.nil | apply Cut.hit | apply Cut.miss (by exact rfl))) ?_
              refine nl (h := ?_)
              refine q_seq (h := ?_)
              refine rtn (h := ?_)
              refine q_blk_ret (h := ?_)
              refine q_then_ret (h := ?_)
              refine q_then_ret (h := ?_)
              refine q_blk_ret (h := ?_)
              refine q_then_ret (h := ?_)
              refine q_ret (hR := ?_)
              first
                | exact fun w hS => ⟨false, ⟨fun h9 => (by cases h9), fun hm => absurd hm hno⟩, rfl, hS.sub (by repeat (first | exact SubL.nil | (apply SubL.cons; (repeat (first | exact At.here | apply At.there))) | exact SubL.refl _ | apply SubL.skip))⟩
                | exact fun w hS => ⟨true, ⟨fun _ => ⟨by omega, fun t ht he => absurd (hw2.symm.trans (hasB_iff.2 ⟨t, ht, he⟩)) (by decide), by omega, fun j' hj' => by rw [hj] at hj'; cases hj'; omega, by omega, fun t ht => by
                    obtain ⟨i', g8, e⟩ := List.mem_iff_getElem.1 ht
                    exact hkD i' t (by omega) (by rw [List.getElem?_eq_getElem g8, e]), fun j' hj' x hx => by
                    rw [hj] at hj'; cases hj'
                    obtain ⟨i', g8, e⟩ := List.mem_iff_getElem.1 hx
                    exact hasB_iff.1 (hiD i' x (by omega) (by rw [List.getElem?_eq_getElem g8, e]))⟩, fun _ => rfl⟩, rfl, hS.sub (by repeat (first | exact SubL.nil | (apply SubL.cons; (repeat (first | exact At.here | apply At.there))) | exact SubL.refl _ | apply SubL.skip))⟩
            · skip
              have htd : t.day ≤ s.day := by have := of_decide_eq_false h8; omega
              refine skp (h := ?_)
              refine q_blk_norm (h := ?_)
              refine q_seq (h := ?_)
              refine rg (h := ?_)
              refine WL.y (hy := mv) (h := ?_)
              refine WL.y (hy := addI) (h := ?_)
              refine WL.y (hy := asg) (h := ?_)
              refine WL.cut (by repeat (first | exact Cut.nil | apply Cut.hit | apply Cut.miss (by exact rfl))) ?_
              refine nl (h := ?_)
              refine rn (x := k) (k + 1) ⟨hkn, fun i' t' g8 g9 => by
                by_cases e : i' = k
                · rw [e, ht] at g9; cases g9; exact htd
                · exact hkD i' t' (by omega) g9⟩ (by omega) (by repeat (first | exact trivial | refine ⟨rfl, ?_⟩)) (by repeat (first | exact SubL.nil | (apply SubL.cons; (repeat (first | exact At.here | apply At.there))) | exact SubL.refl _ | apply SubL.skip))
          · skip
            have hkn : k = n := by have := of_decide_eq_false h7; omega
            refine et (h := ?_)
            refine q_then_exit (h := ?_)
            refine q_then_exit (h := ?_)
            refine q_blk_hit (h := ?_)
            refine q_seq (h := ?_)
            refine sq (h := ?_)
            refine sq (h := ?_)
            refine rg (h := ?_)
            refine WL.y (hy := asg) (h := ?_)
            refine WL.cut (by repeat (first | exact Cut.nil | apply Cut.hit | apply Cut.miss (by exact rfl))) ?_
            refine nl (h := ?_)
            refine q_seq (h := ?_)
            refine bk (h := ?_)
            refine lp (X := Nat) (I := fun i => i ≤ j.af.length ∧ ∀ i' x, i' < i → j.af[i']? = some x → hasB l x = true) (le := fun i => [(1, .slice A n c), (3, .pointer (some ⟨b0, 0, none⟩)), (5, .pointer (some ⟨b1, 0, none⟩)), (8, .int .i64 i)]) (Le := fun _ => [.blk b0 25 p.cells, .blk b1 41 s.cells, .ro p.jA 6 p.jobs.length (encJb p.jobs), .ro A 3 n (encSe l), .ro j.fA 1 j.af.length (enI j.af)]) (μ := fun i => j.af.length - i) 0 ⟨Nat.zero_le _, fun _ _ g9 => absurd g9 (Nat.not_lt_zero _)⟩ (by repeat (first | exact trivial | refine ⟨rfl, ?_⟩)) (by repeat (first | exact SubL.nil | (apply SubL.cons; (repeat (first | exact At.here | apply At.there))) | exact SubL.refl _ | apply SubL.skip)) (fun i hi => ?_)
            obtain ⟨hiL, hiD⟩ := hi
            refine sq (h := ?_)
            refine sq (h := ?_)
            refine rg (h := ?_)
            refine WL.y (hy := mv) (h := ?_)
            refine WL.y (hy := (by first | exact fa | exact faE)) (h := ?_)
            refine WL.y (hy := (by first | exact ld | exact ldE)) (h := ?_)
            refine WL.y (hy := (by first | exact fa | exact faE)) (h := ?_)
            refine WL.y (hy := (by first | exact ld | exact ldE)) (h := ?_)
            refine WL.y (hy := ix (A := p.jA) (m := p.jobs.length) (hb := by omega)) (h := ?_)
            refine WL.y (hy := (by first | exact fa | exact faE)) (h := ?_)
            refine WL.y (hy := ldE (A := p.jA) (hk := encJb_at hj)) (h := ?_)
            refine WL.y (hy := lenS) (h := ?_)
            refine WL.y (hy := lss) (h := ?_)
            refine nl (h := ?_)
            refine q_seq (h := ?_)
            refine cd (by exact rfl) (fun h9 => ?_) (fun h9 => ?_)
            · skip
              have hkn : i < j.af.length := by have := of_decide_eq_true h9; omega
              obtain ⟨x, hx⟩ : ∃ x, j.af[i]? = some x := ⟨_, List.getElem?_eq_getElem hkn⟩
              have hxe := enI_at hx
              have hfn := h.fn j hjm
              refine skp (h := ?_)
              refine q_seq (h := ?_)
              refine sq (h := ?_)
              refine bk (h := ?_)
              refine sq (h := ?_)
              refine rg (h := ?_)
              refine WL.y (hy := mv) (h := ?_)
              refine WL.y (hy := (by first | exact fa | exact faE)) (h := ?_)
              refine WL.y (hy := (by first | exact ld | exact ldE)) (h := ?_)
              refine WL.y (hy := (by first | exact fa | exact faE)) (h := ?_)
              refine WL.y (hy := (by first | exact ld | exact ldE)) (h := ?_)
              refine WL.y (hy := ix (A := p.jA) (m := p.jobs.length) (hb := by omega)) (h := ?_)
              refine WL.y (hy := (by first | exact fa | exact faE)) (h := ?_)
              refine WL.y (hy := ldE (A := p.jA) (hk := encJb_at hj)) (h := ?_)
              refine WL.y (hy := mv) (h := ?_)
              refine WL.y (hy := ix (A := j.fA) (m := j.af.length) (hb := by omega)) (h := ?_)
              refine WL.y (hy := ldE (A := j.fA) (hk := hxe)) (h := ?_)
              refine cl0 (hc := fun w hS => C_ref8_has l x A n c hn w (hS.get (by repeat (first | exact Rds.ro | exact Rds.own | apply Rds.there)))) (h := ?_)
              refine WL.y (hy := notB) (h := ?_)
              refine nl (h := ?_)
              refine q_seq (h := ?_)
              refine cd (by exact rfl) (fun h10 => ?_) (fun h10 => ?_)
              · skip
                have hno : ¬ MayC p l s := fun hm => by
                  have g9 := hasB_iff.2 (hm.af j hj x (List.mem_of_getElem? hx))
                  have g7 := h10
                  rw [g9] at g7; exact absurd g7 (by decide)
                refine sq (h := ?_)
                refine rg (h := ?_)
                refine WL.y (hy := asg) (h := ?_)
                refine WL.cut (by repeat (first | exact Cut.nil | apply Cut.hit | apply Cut.miss (by exact rfl))) ?_
                refine nl (h := ?_)
                refine q_seq (h := ?_)
                refine rtn (h := ?_)
                refine q_blk_ret (h := ?_)
                refine q_then_ret (h := ?_)
                refine q_then_ret (h := ?_)
                refine q_blk_ret (h := ?_)
                refine q_then_ret (h := ?_)
                refine q_ret (hR := ?_)
                first
                  | exact fun w hS => ⟨false, ⟨fun h9 => (by cases h9), fun hm => absurd hm hno⟩, rfl, hS.sub (by repeat (first | exact SubL.nil | (apply SubL.cons; (repeat (first | exact At.here | apply At.there))) | exact SubL.refl _ | apply SubL.skip))⟩
                  | exact fun w hS => ⟨true, ⟨fun _ => ⟨by omega, fun t ht he => absurd (hw2.symm.trans (hasB_iff.2 ⟨t, ht, he⟩)) (by decide), by omega, fun j' hj' => by rw [hj] at hj'; cases hj'; omega, by omega, fun t ht => by
                      obtain ⟨i', g8, e⟩ := List.mem_iff_getElem.1 ht
                      exact hkD i' t (by omega) (by rw [List.getElem?_eq_getElem g8, e]), fun j' hj' x hx => by
                      rw [hj] at hj'; cases hj'
                      obtain ⟨i', g8, e⟩ := List.mem_iff_getElem.1 hx
                      exact hasB_iff.1 (hiD i' x (by omega) (by rw [List.getElem?_eq_getElem g8, e]))⟩, fun _ => rfl⟩, rfl, hS.sub (by repeat (first | exact SubL.nil | (apply SubL.cons; (repeat (first | exact At.here | apply At.there))) | exact SubL.refl _ | apply SubL.skip))⟩
              · skip
                have hxh : hasB l x = true := by have g9 := h10; rwa [Bool.not_eq_false'] at g9
                refine skp (h := ?_)
                refine q_blk_norm (h := ?_)
                refine q_seq (h := ?_)
                refine rg (h := ?_)
                refine WL.y (hy := mv) (h := ?_)
                refine WL.y (hy := addI) (h := ?_)
                refine WL.y (hy := asg) (h := ?_)
                refine WL.cut (by repeat (first | exact Cut.nil | apply Cut.hit | apply Cut.miss (by exact rfl))) ?_
                refine nl (h := ?_)
                refine rn (x := i) (i + 1) ⟨hkn, fun i' x' g8 g9 => by
                  by_cases e : i' = i
                  · rw [e, hx] at g9; cases g9; exact hxh
                  · exact hiD i' x' (by omega) g9⟩ (by omega) (by repeat (first | exact trivial | refine ⟨rfl, ?_⟩)) (by repeat (first | exact SubL.nil | (apply SubL.cons; (repeat (first | exact At.here | apply At.there))) | exact SubL.refl _ | apply SubL.skip))
            · skip
              have hkn2 : i = j.af.length := by have := of_decide_eq_false h9; omega
              refine et (h := ?_)
              refine q_then_exit (h := ?_)
              refine q_then_exit (h := ?_)
              refine q_blk_hit (h := ?_)
              refine q_seq (h := ?_)
              refine sq (h := ?_)
              refine rg (h := ?_)
              refine WL.y (hy := asg) (h := ?_)
              refine WL.cut (by repeat (first | exact Cut.nil | apply Cut.hit | apply Cut.miss (by exact rfl))) ?_
              refine nl (h := ?_)
              refine q_seq (h := ?_)
              refine rtn (h := ?_)
              refine q_ret (hR := ?_)
              first
                | exact fun w hS => ⟨false, ⟨fun h9 => (by cases h9), fun hm => absurd hm hno⟩, rfl, hS.sub (by repeat (first | exact SubL.nil | (apply SubL.cons; (repeat (first | exact At.here | apply At.there))) | exact SubL.refl _ | apply SubL.skip))⟩
                | exact fun w hS => ⟨true, ⟨fun _ => ⟨by omega, fun t ht he => absurd (hw2.symm.trans (hasB_iff.2 ⟨t, ht, he⟩)) (by decide), by omega, fun j' hj' => by rw [hj] at hj'; cases hj'; omega, by omega, fun t ht => by
                    obtain ⟨i', g8, e⟩ := List.mem_iff_getElem.1 ht
                    exact hkD i' t (by omega) (by rw [List.getElem?_eq_getElem g8, e]), fun j' hj' x hx => by
                    rw [hj] at hj'; cases hj'
                    obtain ⟨i', g8, e⟩ := List.mem_iff_getElem.1 hx
                    exact hasB_iff.1 (hiD i' x (by omega) (by rw [List.getElem?_eq_getElem g8, e]))⟩, fun _ => rfl⟩, rfl, hS.sub (by repeat (first | exact SubL.nil | (apply SubL.cons; (repeat (first | exact At.here | apply At.there))) | exact SubL.refl _ | apply SubL.skip))⟩
set_option maxRecDepth 100000 in
theorem C_ref8_IsOrder (p : Pg) (hp : POk p) (o : List Se) (A : Option Addr) (n c : Nat) (hc : n ≤ c) (hn : c ≤ 9223372036854775807) (w : World) (h : PgR w p) (ho : Rd w A 3 n (encSe o)) :
    CR Try.prog 6 [p.val, .slice A n c] w (fun b : Bool => b = true ↔ OOk p o) (fun b => .bool b) (fun _ => []) := by
  have hlen : o.length = n := by have := ho.len; rwa [encSe_len] at this
  have hnj := hp.nj
  refine ⟨en Try.func6 Try.ntmps6 (((St.init w).share (e := .ro p.jA 6 p.jobs.length (encJb p.jobs)) h.j rfl rfl rfl).share (e := .ro A 3 n (encSe o)) ho rfl rfl rfl) (h := fun F => ?_)⟩
  refine sq (h := ?_)
  refine rg (h := ?_)
  refine bxA (h := fun b0 => ?_)
  refine WL.y (hy := asg) (h := ?_)
  refine WL.cut (by repeat (first | exact Cut.nil | apply Cut.hit | apply Cut.miss (by exact rfl))) ?_
  refine nl (h := ?_)
  refine q_seq (h := ?_)
  refine sq (h := ?_)
  refine sq (h := ?_)
  refine rg (h := ?_)
  refine WL.y (hy := asg) (h := ?_)
  refine WL.cut (by repeat (first | exact Cut.nil | apply Cut.hit | apply Cut.miss (by exact rfl))) ?_
  refine nl (h := ?_)
  refine q_seq (h := ?_)
  refine bk (h := ?_)
  refine lp (X := Nat) (I := fun k => k ≤ n ∧ ∀ i s, i < k → o[i]? = some s → MayC p (o.take i) s) (le := fun k => [(1, .slice A n c), (2, .pointer (some ⟨b0, 0, none⟩)), (5, .int .i64 k)]) (Le := fun _ => [.blk b0 25 p.cells, .ro p.jA 6 p.jobs.length (encJb p.jobs), .ro A 3 n (encSe o)]) (μ := fun k => n - k) 0 ⟨Nat.zero_le _, fun _ _ g9 => absurd g9 (Nat.not_lt_zero _)⟩ (by repeat (first | exact trivial | refine ⟨rfl, ?_⟩)) (by repeat (first | exact SubL.nil | (apply SubL.cons; (repeat (first | exact At.here | apply At.there))) | exact SubL.refl _ | apply SubL.skip)) (fun k hk => ?_)
  obtain ⟨hkL, hkM⟩ := hk
  refine sq (h := ?_)
  refine sq (h := ?_)
  refine rg (h := ?_)
  refine WL.y (hy := mv) (h := ?_)
  refine WL.y (hy := mv) (h := ?_)
  refine WL.y (hy := lenS) (h := ?_)
  refine WL.y (hy := lss) (h := ?_)
  refine nl (h := ?_)
  refine q_seq (h := ?_)
  refine cd (by exact rfl) (fun h0 => ?_) (fun h0 => ?_)
  · skip
    have hkn : k < n := by have := of_decide_eq_true h0; omega
    obtain ⟨s, hs⟩ : ∃ s, o[k]? = some s := ⟨_, List.getElem?_eq_getElem (by omega)⟩
    refine skp (h := ?_)
    refine q_seq (h := ?_)
    refine sq (h := ?_)
    refine bk (h := ?_)
    refine sq (h := ?_)
    refine WC.pre (A := A) (m := n) (by repeat (first | exact At.here | apply At.there)) k hkL ?_
    rw [encSe_take]
    refine rgD0 (by kernel_rfl) (h := ?_)
    refine tk 0 (hy := (by first | exact ldA | exact ldEA)) (h := ?_)
    refine tk 1 (hy := mv) (h := ?_)
    refine tk 2 (hy := mv) (h := ?_)
    refine tk 3 (hy := slP (A := A) (m := n) (cap := c) (hi' := k) (hc := by omega)) (h := ?_)
    refine tk 4 (hy := mv) (h := ?_)
    refine tk 5 (hy := mv) (h := ?_)
    refine tk 6 (hy := ix (A := A) (m := n) (hb := by omega)) (h := ?_)
    refine tk 7 (hy := ldEW (A := A) (hk := encSe_at hs)) (h := ?_)
    refine one 8 (h := ?_)
    refine cl (hc := fun w hS => C_ref8_MayCome p hp (o.take k) s A k c (by omega) w (h.old hS) (hS.get (by repeat (first | exact Rds.ro | exact Rds.own | apply Rds.there)))) (h := fun b hb => ?_)
    refine nx (h := ?_)
    refine tk 9 (hy := notB) (h := ?_)
    refine dn (h := ?_)
    refine q_seq (h := ?_)
    refine cd (by exact rfl) (fun h1 => ?_) (fun h1 => ?_)
    · skip
      have hno : ¬ OOk p o := fun hO => by
        have g9 := hb.2 (hO.at_ k s (by omega) hs)
        have g7 := h1
        rw [g9] at g7; exact absurd g7 (by decide)
      refine sq (h := ?_)
      refine rg (h := ?_)
      refine WL.y (hy := asg) (h := ?_)
      refine WL.cut (by repeat (first | exact Cut.nil | apply Cut.hit | apply Cut.miss (by exact rfl))) ?_
      refine nl (h := ?_)
      refine q_seq (h := ?_)
      refine rtn (h := ?_)
      refine q_blk_ret (h := ?_)
      refine q_then_ret (h := ?_)
      refine q_then_ret (h := ?_)
      refine q_blk_ret (h := ?_)
      refine q_then_ret (h := ?_)
      refine q_ret (hR := ?_)
      first
        | exact fun w hS => ⟨false, ⟨fun h9 => (by cases h9), fun hm => absurd hm hno⟩, rfl, hS.sub (by repeat (first | exact SubL.nil | (apply SubL.cons; (repeat (first | exact At.here | apply At.there))) | exact SubL.refl _ | apply SubL.skip))⟩
        | exact fun w hS => ⟨decide ((n : Int) = (p.jobs.length : Int)), ⟨fun g9 => ⟨by have := of_decide_eq_true g9; omega, fun i s g8 g7 => hkM i s (by omega) g7⟩, fun hO => decide_eq_true (by have := hO.n; omega)⟩, rfl, hS.sub (by repeat (first | exact SubL.nil | (apply SubL.cons; (repeat (first | exact At.here | apply At.there))) | exact SubL.refl _ | apply SubL.skip))⟩
    · skip
      have hmc : MayC p (o.take k) s := hb.1 (by have g9 := h1; rwa [Bool.not_eq_false'] at g9)
      refine skp (h := ?_)
      refine q_blk_norm (h := ?_)
      refine q_seq (h := ?_)
      refine rg (h := ?_)
      refine WL.y (hy := mv) (h := ?_)
      refine WL.y (hy := addI) (h := ?_)
      refine WL.y (hy := asg) (h := ?_)
      refine WL.cut (by repeat (first | exact Cut.nil | apply Cut.hit | apply Cut.miss (by exact rfl))) ?_
      refine nl (h := ?_)
      refine rn (x := k) (k + 1) ⟨hkn, fun i' s' g8 g9 => by
        by_cases e : i' = k
        · rw [e, hs] at g9; cases g9; rw [e]; exact hmc
        · exact hkM i' s' (by omega) g9⟩ (by omega) (by repeat (first | exact trivial | refine ⟨rfl, ?_⟩)) (by repeat (first | exact SubL.nil | (apply SubL.cons; (repeat (first | exact At.here | apply At.there))) | exact SubL.refl _ | apply SubL.skip))
  · skip
    have hkn : k = n := by have := of_decide_eq_false h0; omega
    refine et (h := ?_)
    refine q_then_exit (h := ?_)
    refine q_then_exit (h := ?_)
    refine q_blk_hit (h := ?_)
    refine q_seq (h := ?_)
    refine sq (h := ?_)
    refine rg (h := ?_)
    refine WL.y (hy := mv) (h := ?_)
    refine WL.y (hy := lenS) (h := ?_)
    refine WL.y (hy := (by first | exact fa | exact faE)) (h := ?_)
    refine WL.y (hy := (by first | exact ld | exact ldE)) (h := ?_)
    refine WL.y (hy := lenS) (h := ?_)
    refine WL.y (hy := eql) (h := ?_)
    refine WL.y (hy := asg) (h := ?_)
    refine WL.cut (by repeat (first | exact Cut.nil | apply Cut.hit | apply Cut.miss (by exact rfl))) ?_
    refine nl (h := ?_)
    refine q_seq (h := ?_)
    refine rtn (h := ?_)
    refine q_ret (hR := ?_)
    first
      | exact fun w hS => ⟨false, ⟨fun h9 => (by cases h9), fun hm => absurd hm hno⟩, rfl, hS.sub (by repeat (first | exact SubL.nil | (apply SubL.cons; (repeat (first | exact At.here | apply At.there))) | exact SubL.refl _ | apply SubL.skip))⟩
      | exact fun w hS => ⟨decide ((n : Int) = (p.jobs.length : Int)), ⟨fun g9 => ⟨by have := of_decide_eq_true g9; omega, fun i s g8 g7 => hkM i s (by omega) g7⟩, fun hO => decide_eq_true (by have := hO.n; omega)⟩, rfl, hS.sub (by repeat (first | exact SubL.nil | (apply SubL.cons; (repeat (first | exact At.here | apply At.there))) | exact SubL.refl _ | apply SubL.skip))⟩
noncomputable def ordB (p : Pg) (o : List Se) : Bool := @decide (OOk p o) (Classical.propDecidable _)
theorem ordB_iff {p : Pg} {o : List Se} : ordB p o = true ↔ OOk p o := by
  unfold ordB
  exact ⟨fun h => @of_decide_eq_true _ (Classical.propDecidable _) h, fun h => @decide_eq_true _ (Classical.propDecidable _) h⟩
theorem C_ref8_IsOrderB (p : Pg) (hp : POk p) (o : List Se) (A : Option Addr) (n c : Nat) (hc : n ≤ c) (hn : c ≤ 9223372036854775807) (w : World) (h : PgR w p) (ho : Rd w A 3 n (encSe o)) : C0 Try.prog 6 [p.val, .slice A n c] w (.bool (ordB p o)) := by
  refine ⟨Calls.mono (C_ref8_IsOrder p hp o A n c hc hn w h ho).out fun e w' ⟨b, hb, he, hs⟩ => ⟨?_, hs⟩⟩
  rw [he]
  congr 2
  cases hq : ordB p o
  · cases b
    · rfl
    · exact absurd (ordB_iff.2 (hb.1 rfl)) (by rw [hq]; decide)
  · exact hb.2 (ordB_iff.1 hq)
end Go.Proofs.Ytngelilffleimaa

namespace Go.Proofs.Ytngelilffleimaa
open Go Go.RowKit

theorem C_ref8_In (l : List Int) (y : Int) (A : Option Addr) (n c : Nat) (hn : n ≤ 9223372036854775807) (w : World) (h : Rd w A 1 n (enI l)) : C0 Try.prog 69 [.slice A n c, .int .i64 y] w (.bool (l.contains y)) := by
  have hlen : l.length = n := by have := h.len; rwa [enI_len] at this
  refine ⟨en Try.func69 Try.ntmps69 ((St.init w).share (e := .ro A 1 n (enI l)) h rfl rfl rfl) (h := fun F => ?_)⟩
  refine sq (h := ?_)
  refine rg (h := ?_)
  refine WL.y (hy := asg) (h := ?_)
  refine WL.cut (by repeat (first | exact Cut.nil | apply Cut.hit | apply Cut.miss (by exact rfl))) ?_
  refine nl (h := ?_)
  refine q_seq (h := ?_)
  refine sq (h := ?_)
  refine sq (h := ?_)
  refine rg (h := ?_)
  refine WL.y (hy := asg) (h := ?_)
  refine WL.cut (by repeat (first | exact Cut.nil | apply Cut.hit | apply Cut.miss (by exact rfl))) ?_
  refine nl (h := ?_)
  refine q_seq (h := ?_)
  refine bk (h := ?_)
  refine lp (X := Nat) (I := fun k => k ≤ n ∧ ∀ i x, i < k → l[i]? = some x → x ≠ y) (le := fun k => [(0, .slice A n c), (1, .int .i64 y), (5, .int .i64 k)]) (Le := fun _ => [.ro A 1 n (enI l)]) (μ := fun k => n - k) 0 ⟨Nat.zero_le _, fun _ _ g9 => absurd g9 (Nat.not_lt_zero _)⟩ (by repeat (first | exact trivial | refine ⟨rfl, ?_⟩)) (by repeat (first | exact SubL.nil | (apply SubL.cons; (repeat (first | exact At.here | apply At.there))) | exact SubL.refl _ | apply SubL.skip)) (fun k hk => ?_)
  obtain ⟨hkL, hkH⟩ := hk
  refine sq (h := ?_)
  refine sq (h := ?_)
  refine rg (h := ?_)
  refine WL.y (hy := mv) (h := ?_)
  refine WL.y (hy := mv) (h := ?_)
  refine WL.y (hy := lenS) (h := ?_)
  refine WL.y (hy := lss) (h := ?_)
  refine nl (h := ?_)
  refine q_seq (h := ?_)
  refine cd (by exact rfl) (fun h0 => ?_) (fun h0 => ?_)
  · skip
    have hkn : k < n := by have := of_decide_eq_true h0; omega
    obtain ⟨x, hx⟩ : ∃ x, l[k]? = some x := ⟨_, List.getElem?_eq_getElem (by omega)⟩
    have hxe := enI_at hx
    refine skp (h := ?_)
    refine q_seq (h := ?_)
    refine sq (h := ?_)
    refine bk (h := ?_)
    refine sq (h := ?_)
    refine rg (h := ?_)
    refine WL.y (hy := mv) (h := ?_)
    refine WL.y (hy := mv) (h := ?_)
    refine WL.y (hy := ix (A := A) (m := n) (hb := by omega)) (h := ?_)
    refine WL.y (hy := ldE (A := A) (hk := hxe)) (h := ?_)
    refine WL.y (hy := mv) (h := ?_)
    refine WL.y (hy := eql) (h := ?_)
    refine nl (h := ?_)
    refine q_seq (h := ?_)
    refine cd (by exact rfl) (fun h1 => ?_) (fun h1 => ?_)
    · skip
      have hE : l.contains y = true := by
        have g9 := of_decide_eq_true h1
        rw [← g9]; exact List.contains_iff_mem.2 (List.mem_of_getElem? hx)
      refine sq (h := ?_)
      refine rg (h := ?_)
      refine WL.y (hy := asg) (h := ?_)
      refine WL.cut (by repeat (first | exact Cut.nil | apply Cut.hit | apply Cut.miss (by exact rfl))) ?_
      refine nl (h := ?_)
      refine q_seq (h := ?_)
      refine rtn (h := ?_)
      refine q_blk_ret (h := ?_)
      refine q_then_ret (h := ?_)
      refine q_then_ret (h := ?_)
      refine q_blk_ret (h := ?_)
      refine q_then_ret (h := ?_)
      refine q_ret (hR := ?_)
      rw [hE]
      exact fun w hS => ⟨rfl, hS.sub (by repeat (first | exact SubL.nil | (apply SubL.cons; (repeat (first | exact At.here | apply At.there))) | exact SubL.refl _ | apply SubL.skip))⟩
    · skip
      have hne : x ≠ y := of_decide_eq_false h1
      refine skp (h := ?_)
      refine q_blk_norm (h := ?_)
      refine q_seq (h := ?_)
      refine rg (h := ?_)
      refine WL.y (hy := mv) (h := ?_)
      refine WL.y (hy := addI) (h := ?_)
      refine WL.y (hy := asg) (h := ?_)
      refine WL.cut (by repeat (first | exact Cut.nil | apply Cut.hit | apply Cut.miss (by exact rfl))) ?_
      refine nl (h := ?_)
      refine rn (x := k) (k + 1) ⟨hkn, fun i' x' g8 g9 => by
        by_cases e : i' = k
        · rw [e, hx] at g9; cases g9; exact hne
        · exact hkH i' x' (by omega) g9⟩ (by omega) (by repeat (first | exact trivial | refine ⟨rfl, ?_⟩)) (by repeat (first | exact SubL.nil | (apply SubL.cons; (repeat (first | exact At.here | apply At.there))) | exact SubL.refl _ | apply SubL.skip))
  · skip
    have hkn : k = n := by have := of_decide_eq_false h0; omega
    have hE : l.contains y = false := by
      cases e : l.contains y
      · rfl
      · exfalso
        obtain ⟨i, hi, e2⟩ := List.mem_iff_getElem.1 (List.contains_iff_mem.1 e)
        exact hkH i y (by omega) (by rw [List.getElem?_eq_getElem hi, e2]) rfl
    refine et (h := ?_)
    refine q_then_exit (h := ?_)
    refine q_then_exit (h := ?_)
    refine q_blk_hit (h := ?_)
    refine q_seq (h := ?_)
    refine sq (h := ?_)
    refine rg (h := ?_)
    refine WL.y (hy := asg) (h := ?_)
    refine WL.cut (by repeat (first | exact Cut.nil | apply Cut.hit | apply Cut.miss (by exact rfl))) ?_
    refine nl (h := ?_)
    refine q_seq (h := ?_)
    refine rtn (h := ?_)
    refine q_ret (hR := ?_)
    rw [hE]
    exact fun w hS => ⟨rfl, hS.sub (by repeat (first | exact SubL.nil | (apply SubL.cons; (repeat (first | exact At.here | apply At.there))) | exact SubL.refl _ | apply SubL.skip))⟩
set_option maxRecDepth 100000 in
theorem C_ref8_Share (p : Pg) (x y : Int) (jx jy : Jb) (hx : 0 ≤ x ∧ x < p.jobs.length) (hy : 0 ≤ y ∧ y < p.jobs.length) (hjx : p.jobs[x.toNat]? = some jx) (hjy : p.jobs[y.toNat]? = some jy) (w : World) (h : PgR w p) : C0 Try.prog 55 [p.val, .int .i64 x, .int .i64 y] w (.bool (shB p x y)) := by
  have hE : shB p x y = (((jx.af.contains y || jx.wi.contains y) || jy.af.contains x) || jy.wi.contains x) := by unfold shB; rw [hjx, hjy]; dsimp only; rw [Bool.or_assoc (jx.af.contains y || jx.wi.contains y)]
  have hmx := List.mem_of_getElem? hjx
  have hmy := List.mem_of_getElem? hjy
  refine ⟨en Try.func55 Try.ntmps55 ((((((St.init w).share (e := .ro p.jA 6 p.jobs.length (encJb p.jobs)) h.j rfl rfl rfl).share (e := .ro jx.fA 1 jx.af.length (enI jx.af)) (h.f jx hmx) rfl rfl rfl).share (e := .ro jx.wA 1 jx.wi.length (enI jx.wi)) (h.w jx hmx) rfl rfl rfl).share (e := .ro jy.fA 1 jy.af.length (enI jy.af)) (h.f jy hmy) rfl rfl rfl).share (e := .ro jy.wA 1 jy.wi.length (enI jy.wi)) (h.w jy hmy) rfl rfl rfl) (h := fun F => ?_)⟩
  refine sq (h := ?_)
  refine rg (h := ?_)
  refine bxA (h := fun b0 => ?_)
  refine WL.y (hy := asg) (h := ?_)
  refine nl (h := ?_)
  refine q_seq (h := ?_)
  refine sq (h := ?_)
  refine rg (h := ?_)
  refine WL.y (hy := (by first | exact fa | exact faE)) (h := ?_)
  refine WL.y (hy := (by first | exact ld | exact ldE)) (h := ?_)
  refine WL.y (hy := mv) (h := ?_)
  refine WL.y (hy := ix (A := p.jA) (m := p.jobs.length) (hb := by omega)) (h := ?_)
  refine WL.y (hy := (by first | exact fa | exact faE)) (h := ?_)
  refine WL.y (hy := ldE (A := p.jA) (hk := encJb_at hjx)) (h := ?_)
  refine WL.y (hy := mv) (h := ?_)
  refine cl0 (hc := fun w hS => C_ref8_In jx.af y jx.fA jx.af.length jx.fc (h.fn jx hmx) w (hS.get (by repeat (first | exact Rds.ro | exact Rds.own | apply Rds.there)))) (h := ?_)
  refine WL.y (hy := mv) (h := ?_)
  apply brOr 9 15 24 (by exact rfl)
  · intro hb0
    refine un (h := ?_)
    refine WL.y (hy := (by first | exact fa | exact faE)) (h := ?_)
    refine un (h := ?_)
    refine WL.y (hy := (by first | exact ld | exact ldE)) (h := ?_)
    refine un (h := ?_)
    refine WL.y (hy := mv) (h := ?_)
    refine un (h := ?_)
    refine WL.y (hy := ix (A := p.jA) (m := p.jobs.length) (hb := by omega)) (h := ?_)
    refine un (h := ?_)
    refine WL.y (hy := (by first | exact fa | exact faE)) (h := ?_)
    refine un (h := ?_)
    refine WL.y (hy := ldE (A := p.jA) (hk := encJb_at hjx)) (h := ?_)
    refine un (h := ?_)
    refine WL.y (hy := mv) (h := ?_)
    refine un (h := ?_)
    refine cl0 (hc := fun w hS => C_ref8_In jx.wi y jx.wA jx.wi.length jx.wc (h.wn jx hmx) w (hS.get (by repeat (first | exact Rds.ro | exact Rds.own | apply Rds.there)))) (h := ?_)
    refine WL.y (hy := (by first | exact pkT | exact pkF)) (h := ?_)
    exact mg (by repeat (first | exact trivial | refine ⟨rfl, ?_⟩ | refine ⟨by rw [hb0]; rfl, ?_⟩)) (by repeat (first | exact SubL.nil | (apply SubL.cons; (repeat (first | exact At.here | apply At.there))) | exact SubL.refl _ | apply SubL.skip))
  · intro hb0
    repeat (first | refine un (h := ?_) | refine sk (h := ?_) | refine WL.y (hy := pkF) (h := ?_) | refine WL.y (hy := pkT) (h := ?_))
    exact mg (by repeat (first | exact trivial | refine ⟨rfl, ?_⟩ | refine ⟨by rw [hb0]; rfl, ?_⟩)) (by repeat (first | exact SubL.nil | (apply SubL.cons; (repeat (first | exact At.here | apply At.there))) | exact SubL.refl _ | apply SubL.skip))
  refine WL.y (hy := mv) (h := ?_)
  apply brOr 9 25 34 (by exact rfl)
  · intro hb1
    refine un (h := ?_)
    refine WL.y (hy := (by first | exact fa | exact faE)) (h := ?_)
    refine un (h := ?_)
    refine WL.y (hy := (by first | exact ld | exact ldE)) (h := ?_)
    refine un (h := ?_)
    refine WL.y (hy := mv) (h := ?_)
    refine un (h := ?_)
    refine WL.y (hy := ix (A := p.jA) (m := p.jobs.length) (hb := by omega)) (h := ?_)
    refine un (h := ?_)
    refine WL.y (hy := (by first | exact fa | exact faE)) (h := ?_)
    refine un (h := ?_)
    refine WL.y (hy := ldE (A := p.jA) (hk := encJb_at hjy)) (h := ?_)
    refine un (h := ?_)
    refine WL.y (hy := mv) (h := ?_)
    refine un (h := ?_)
    refine cl0 (hc := fun w hS => C_ref8_In jy.af x jy.fA jy.af.length jy.fc (h.fn jy hmy) w (hS.get (by repeat (first | exact Rds.ro | exact Rds.own | apply Rds.there)))) (h := ?_)
    refine WL.y (hy := (by first | exact pkT | exact pkF)) (h := ?_)
    exact mg (by repeat (first | exact trivial | refine ⟨rfl, ?_⟩ | refine ⟨by rw [hb1]; rfl, ?_⟩)) (by repeat (first | exact SubL.nil | (apply SubL.cons; (repeat (first | exact At.here | apply At.there))) | exact SubL.refl _ | apply SubL.skip))
  · intro hb1
    repeat (first | refine un (h := ?_) | refine sk (h := ?_) | refine WL.y (hy := pkF) (h := ?_) | refine WL.y (hy := pkT) (h := ?_))
    exact mg (by repeat (first | exact trivial | refine ⟨rfl, ?_⟩ | refine ⟨by rw [hb1]; rfl, ?_⟩)) (by repeat (first | exact SubL.nil | (apply SubL.cons; (repeat (first | exact At.here | apply At.there))) | exact SubL.refl _ | apply SubL.skip))
  refine WL.y (hy := mv) (h := ?_)
  apply brOr 9 35 44 (by exact rfl)
  · intro hb2
    refine un (h := ?_)
    refine WL.y (hy := (by first | exact fa | exact faE)) (h := ?_)
    refine un (h := ?_)
    refine WL.y (hy := (by first | exact ld | exact ldE)) (h := ?_)
    refine un (h := ?_)
    refine WL.y (hy := mv) (h := ?_)
    refine un (h := ?_)
    refine WL.y (hy := ix (A := p.jA) (m := p.jobs.length) (hb := by omega)) (h := ?_)
    refine un (h := ?_)
    refine WL.y (hy := (by first | exact fa | exact faE)) (h := ?_)
    refine un (h := ?_)
    refine WL.y (hy := ldE (A := p.jA) (hk := encJb_at hjy)) (h := ?_)
    refine un (h := ?_)
    refine WL.y (hy := mv) (h := ?_)
    refine un (h := ?_)
    refine cl0 (hc := fun w hS => C_ref8_In jy.wi x jy.wA jy.wi.length jy.wc (h.wn jy hmy) w (hS.get (by repeat (first | exact Rds.ro | exact Rds.own | apply Rds.there)))) (h := ?_)
    refine WL.y (hy := (by first | exact pkT | exact pkF)) (h := ?_)
    exact mg (by repeat (first | exact trivial | refine ⟨rfl, ?_⟩ | refine ⟨by rw [hb2]; rfl, ?_⟩)) (by repeat (first | exact SubL.nil | (apply SubL.cons; (repeat (first | exact At.here | apply At.there))) | exact SubL.refl _ | apply SubL.skip))
  · intro hb2
    repeat (first | refine un (h := ?_) | refine sk (h := ?_) | refine WL.y (hy := pkF) (h := ?_) | refine WL.y (hy := pkT) (h := ?_))
    exact mg (by repeat (first | exact trivial | refine ⟨rfl, ?_⟩ | refine ⟨by rw [hb2]; rfl, ?_⟩)) (by repeat (first | exact SubL.nil | (apply SubL.cons; (repeat (first | exact At.here | apply At.there))) | exact SubL.refl _ | apply SubL.skip))
  refine WL.y (hy := asg) (h := ?_)
  refine nl (h := ?_)
  refine q_seq (h := ?_)
  refine rtn (h := ?_)
  refine q_ret (hR := ?_)
  rw [hE]
  exact fun w hS => ⟨rfl, hS.sub .nil⟩
set_option maxRecDepth 100000 in
set_option maxHeartbeats 1000000 in
theorem C_ref8_Begin (p : Pg) (hp : POk p) (pre : List Se) (s : Se) (hm : MayC p pre s) (hpr : ∀ t ∈ pre, 0 ≤ t.job ∧ t.job < p.jobs.length) (es : List Int) (hel : es.length = p.jobs.length) (her : ∀ i : Nat, 0 ≤ es.getD i 0 ∧ es.getD i 0 ≤ 100000) (A : Option Addr) (na ca : Nat) (B : Option Addr) (cb : Nat) (hna : na ≤ 1000000) (w : World) (h : PgR w p) (hA : Rd w A 3 na (encSe pre)) (hB : Rd w B 1 p.jobs.length (enI es)) :
    C0 Try.prog 34 [p.val, .slice A na ca, .slice B p.jobs.length cb, s.val] w (.int .i64 (begR p es s pre)) := by
  have hlen : pre.length = na := by have := hA.len; rwa [encSe_len] at this
  have hmj := hm.job
  have hmd := hm.day
  have hmc := hm.court
  have hre := hp.rest
  obtain ⟨j, hj⟩ : ∃ j, p.jobs[s.job.toNat]? = some j := ⟨_, List.getElem?_eq_getElem (by omega)⟩
  obtain ⟨d, hd⟩ : ∃ d, p.days[s.day.toNat]? = some d := ⟨_, List.getElem?_eq_getElem (by omega)⟩
  have hdm := List.mem_of_getElem? hd
  have hdl := (hp.dy _ d (by omega) hd).1
  obtain ⟨cc, hcc⟩ : ∃ c, d.sp[s.court.toNat]? = some c := ⟨_, List.getElem?_eq_getElem (by omega)⟩
  have h0 : begRk p es s pre 0 = max cc.1 j.ear := by show max (p.low s) (p.ear s.job) = _; unfold Pg.low Pg.ear; rw [hd, hj]; dsimp only; rw [hcc]
  refine ⟨en Try.func34 Try.ntmps34 ((((((St.init w).share (e := .ro p.dA 1 p.days.length (encDy p.days)) h.d rfl rfl rfl).share (e := .ro p.jA 6 p.jobs.length (encJb p.jobs)) h.j rfl rfl rfl).share (e := .ro d.A 2 d.sp.length (encSn d.sp)) (h.s d hdm) rfl rfl rfl).share (e := .ro A 3 na (encSe pre)) hA rfl rfl rfl).share (e := .ro B 1 p.jobs.length (enI es)) hB rfl rfl rfl) (h := fun F => ?_)⟩
  refine sq (h := ?_)
  refine rg (h := ?_)
  refine bxA (h := fun b0 => ?_)
  refine bxA (h := fun b1 => ?_)
  refine WL.y (hy := asg) (h := ?_)
  refine WL.cut (by repeat (first | exact Cut.nil | apply Cut.hit | apply Cut.miss (by exact rfl))) ?_
  refine nl (h := ?_)
  refine q_seq (h := ?_)
  refine sq (h := ?_)
  refine rgD0 (by kernel_rfl) (h := ?_)
  refine tk 0 (hy := (by first | exact fa | exact faE)) (h := ?_)
  refine tk 1 (hy := (by first | exact ld | exact ldE)) (h := ?_)
  refine tk 2 (hy := (by first | exact fa | exact faE)) (h := ?_)
  refine tk 3 (hy := (by first | exact ld | exact ldE)) (h := ?_)
  refine tk 4 (hy := ix (A := p.dA) (m := p.days.length) (hb := by omega)) (h := ?_)
  refine tk 5 (hy := ldE (A := p.dA) (hk := encDy_at hd)) (h := ?_)
  refine tk 6 (hy := (by first | exact fa | exact faE)) (h := ?_)
  refine tk 7 (hy := (by first | exact ld | exact ldE)) (h := ?_)
  refine tk 8 (hy := ix (A := d.A) (m := d.sp.length) (hb := by omega)) (h := ?_)
  refine tk 9 (hy := (by first | exact fa | exact faE)) (h := ?_)
  refine tk 10 (hy := ldE (A := d.A) (hk := encSn_at hcc)) (h := ?_)
  refine tk 11 (hy := (by first | exact fa | exact faE)) (h := ?_)
  refine tk 12 (hy := (by first | exact ld | exact ldE)) (h := ?_)
  refine tk 13 (hy := (by first | exact fa | exact faE)) (h := ?_)
  refine tk 14 (hy := (by first | exact ld | exact ldE)) (h := ?_)
  refine tk 15 (hy := ix (A := p.jA) (m := p.jobs.length) (hb := by omega)) (h := ?_)
  refine tk 16 (hy := (by first | exact fa | exact faE)) (h := ?_)
  refine tk 17 (hy := ldE (A := p.jA) (hk := encJb_at hj)) (h := ?_)
  refine tk 18 (hy := maxI) (h := ?_)
  refine tk 19 (hy := asg) (h := ?_)
  refine dn (h := ?_)
  refine q_seq (h := ?_)
  refine sq (h := ?_)
  refine sq (h := ?_)
  rw [← h0]
  refine rg (h := ?_)
  refine WL.y (hy := asg) (h := ?_)
  refine WL.cut (by repeat (first | exact Cut.nil | apply Cut.hit | apply Cut.miss (by exact rfl))) ?_
  refine nl (h := ?_)
  refine q_seq (h := ?_)
  refine bk (h := ?_)
  refine lp (X := Nat) (I := fun k => k ≤ na) (le := fun k => [(1, .slice A na ca), (2, .slice B p.jobs.length cb), (4, .pointer (some ⟨b0, 0, none⟩)), (7, .pointer (some ⟨b1, 0, none⟩)), (9, .int .i64 (begRk p es s pre k)), (10, .int .i64 k)]) (Le := fun _ => [.blk b0 25 p.cells, .blk b1 41 s.cells, .ro A 3 na (encSe pre), .ro B 1 p.jobs.length (enI es)]) (μ := fun k => na - k) 0 (Nat.zero_le _) (by repeat (first | exact trivial | refine ⟨rfl, ?_⟩)) (by repeat (first | exact SubL.nil | (apply SubL.cons; (repeat (first | exact At.here | apply At.there))) | exact SubL.refl _ | apply SubL.skip)) (fun k hk => ?_)
  refine sq (h := ?_)
  refine sq (h := ?_)
  refine rg (h := ?_)
  refine WL.y (hy := mv) (h := ?_)
  refine WL.y (hy := mv) (h := ?_)
  refine WL.y (hy := lenS) (h := ?_)
  refine WL.y (hy := lss) (h := ?_)
  refine nl (h := ?_)
  refine q_seq (h := ?_)
  refine cd (by exact rfl) (fun h0 => ?_) (fun h0 => ?_)
  · skip
    have hkn : k < na := by have := of_decide_eq_true h0; omega
    obtain ⟨t, ht⟩ : ∃ t, pre[k]? = some t := ⟨_, List.getElem?_eq_getElem (by omega)⟩
    have htj := hpr t (List.mem_of_getElem? ht)
    obtain ⟨jt, hjt⟩ : ∃ j, p.jobs[t.job.toNat]? = some j := ⟨_, List.getElem?_eq_getElem (by omega)⟩
    have hstep : begRk p es s pre (k + 1) = begR1 p es s t (begRk p es s pre k) := by rw [begRk, ht]
    have hte := enI_at (getD_get (l := es) (i := t.job.toNat) (by omega))
    have hev := her t.job.toNat
    refine skp (h := ?_)
    refine q_seq (h := ?_)
    refine sq (h := ?_)
    refine bk (h := ?_)
    refine sq (h := ?_)
    refine sq (h := ?_)
    refine rgD0 (by kernel_rfl) (h := ?_)
    refine tk 0 (hy := mv) (h := ?_)
    refine tk 1 (hy := mv) (h := ?_)
    refine tk 2 (hy := ix (A := A) (m := na) (hb := by omega)) (h := ?_)
    refine tk 3 (hy := (by first | exact fa | exact faE)) (h := ?_)
    refine tk 4 (hy := ldE (A := A) (hk := encSe_at ht)) (h := ?_)
    refine tk 5 (hy := (by first | exact fa | exact faE)) (h := ?_)
    refine tk 6 (hy := (by first | exact ld | exact ldE)) (h := ?_)
    refine tk 7 (hy := neq) (h := ?_)
    refine dn (h := ?_)
    refine q_seq (h := ?_)
    refine cd (by exact rfl) (fun h1 => ?_) (fun h1 => ?_)
    · skip
      have hE : begRk p es s pre (k + 1) = begRk p es s pre k := by
        have g9 := h1
        rw [Bool.not_eq_true'] at g9
        rw [hstep, begR1, g9]; rfl
      refine et (h := ?_)
      refine q_then_exit (h := ?_)
      refine q_blk_hit (h := ?_)
      refine q_seq (h := ?_)
      refine rg (h := ?_)
      refine WL.y (hy := mv) (h := ?_)
      refine WL.y (hy := addI) (h := ?_)
      refine WL.y (hy := asg) (h := ?_)
      refine WL.cut (by repeat (first | exact Cut.nil | apply Cut.hit | apply Cut.miss (by exact rfl))) ?_
      refine nl (h := ?_)
      refine rn (x := k) (k + 1) hkn (by omega) (by rw [hE]; repeat (first | exact trivial | refine ⟨rfl, ?_⟩)) (by repeat (first | exact SubL.nil | (apply SubL.cons; (repeat (first | exact At.here | apply At.there))) | exact SubL.refl _ | apply SubL.skip))
    · skip
      have hd1 : decide (t.day = s.day) = true := by have g9 := h1; rwa [Bool.not_eq_false'] at g9
      refine skp (h := ?_)
      refine q_seq (h := ?_)
      refine sq (h := ?_)
      refine sq (h := ?_)
      refine rgD0 (by kernel_rfl) (h := ?_)
      refine tk 0 (hy := mv) (h := ?_)
      refine tk 1 (hy := mv) (h := ?_)
      refine tk 2 (hy := ix (A := A) (m := na) (hb := by omega)) (h := ?_)
      refine tk 3 (hy := (by first | exact fa | exact faE)) (h := ?_)
      refine tk 4 (hy := ldE (A := A) (hk := encSe_at ht)) (h := ?_)
      refine tk 5 (hy := (by first | exact fa | exact faE)) (h := ?_)
      refine tk 6 (hy := (by first | exact ld | exact ldE)) (h := ?_)
      refine tk 7 (hy := eql) (h := ?_)
      refine dn (h := ?_)
      refine q_seq (h := ?_)
      refine cd (by exact rfl) (fun h2 => ?_) (fun h2 => ?_)
      · skip
        have hc1 : decide (t.court = s.court) = true := h2
        refine rg (h := ?_)
        refine WL.y (hy := mv) (h := ?_)
        refine WL.y (hy := mv) (h := ?_)
        refine WL.y (hy := mv) (h := ?_)
        refine WL.y (hy := mv) (h := ?_)
        refine WL.y (hy := ix (A := A) (m := na) (hb := by omega)) (h := ?_)
        refine WL.y (hy := (by first | exact fa | exact faE)) (h := ?_)
        refine WL.y (hy := ldE (A := A) (hk := encSe_at ht)) (h := ?_)
        refine WL.y (hy := ix (A := B) (m := p.jobs.length) (hb := by omega)) (h := ?_)
        refine WL.y (hy := ldE (A := B) (hk := hte)) (h := ?_)
        refine WL.y (hy := maxI) (h := ?_)
        refine WL.y (hy := asg) (h := ?_)
        refine nl (h := ?_)
        refine q_seq (h := ?_)
        refine sq (h := ?_)
        refine rgD0 (by kernel_rfl) (h := ?_)
        refine tk 0 (hy := (by first | exact ldA | exact ldEA)) (h := ?_)
        refine tk 1 (hy := (by first | exact fa | exact faE)) (h := ?_)
        refine tk 2 (hy := (by first | exact ld | exact ldE)) (h := ?_)
        refine tk 3 (hy := mv) (h := ?_)
        refine tk 4 (hy := mv) (h := ?_)
        refine tk 5 (hy := ix (A := A) (m := na) (hb := by omega)) (h := ?_)
        refine tk 6 (hy := (by first | exact fa | exact faE)) (h := ?_)
        refine tk 7 (hy := ldE (A := A) (hk := encSe_at ht)) (h := ?_)
        refine one 8 (h := ?_)
        refine cl0 (hc := fun w hS => C_ref8_Share p s.job t.job j jt hmj htj hj hjt w (h.old hS)) (h := ?_)
        refine nx (h := ?_)
        refine dn (h := ?_)
        refine q_seq (h := ?_)
        refine cd (by exact rfl) (fun h3 => ?_) (fun h3 => ?_)
        · skip
          have hs1 : shB p s.job t.job = true := h3
          have hE := hstep
          unfold begR1 at hE
          simp only [hd1, hc1, hs1, cond_true, cond_false] at hE
          refine rgD0 (by kernel_rfl) (h := ?_)
          refine tk 0 (hy := mv) (h := ?_)
          refine tk 1 (hy := mv) (h := ?_)
          refine tk 2 (hy := mv) (h := ?_)
          refine tk 3 (hy := mv) (h := ?_)
          refine tk 4 (hy := ix (A := A) (m := na) (hb := by omega)) (h := ?_)
          refine tk 5 (hy := (by first | exact fa | exact faE)) (h := ?_)
          refine tk 6 (hy := ldE (A := A) (hk := encSe_at ht)) (h := ?_)
          refine tk 7 (hy := ix (A := B) (m := p.jobs.length) (hb := by omega)) (h := ?_)
          refine tk 8 (hy := ldE (A := B) (hk := hte)) (h := ?_)
          refine tk 9 (hy := (by first | exact fa | exact faE)) (h := ?_)
          refine tk 10 (hy := (by first | exact ld | exact ldE)) (h := ?_)
          refine tk 11 (hy := addI (hb := by omega)) (h := ?_)
          refine tk 12 (hy := maxI) (h := ?_)
          refine tk 13 (hy := asg) (h := ?_)
          refine dn (h := ?_)
          refine q_blk_norm (h := ?_)
          refine q_seq (h := ?_)
          refine rg (h := ?_)
          refine WL.y (hy := mv) (h := ?_)
          refine WL.y (hy := addI) (h := ?_)
          refine WL.y (hy := asg) (h := ?_)
          refine WL.cut (by repeat (first | exact Cut.nil | apply Cut.hit | apply Cut.miss (by exact rfl))) ?_
          refine nl (h := ?_)
          refine rn (x := k) (k + 1) hkn (by omega) (by rw [hE]; repeat (first | exact trivial | refine ⟨rfl, ?_⟩)) (by repeat (first | exact SubL.nil | (apply SubL.cons; (repeat (first | exact At.here | apply At.there))) | exact SubL.refl _ | apply SubL.skip))
        · skip
          have hs1 : shB p s.job t.job = false := h3
          have hE := hstep
          unfold begR1 at hE
          simp only [hd1, hc1, hs1, cond_true, cond_false] at hE
          refine skp (h := ?_)
          refine q_blk_norm (h := ?_)
          refine q_seq (h := ?_)
          refine rg (h := ?_)
          refine WL.y (hy := mv) (h := ?_)
          refine WL.y (hy := addI) (h := ?_)
          refine WL.y (hy := asg) (h := ?_)
          refine WL.cut (by repeat (first | exact Cut.nil | apply Cut.hit | apply Cut.miss (by exact rfl))) ?_
          refine nl (h := ?_)
          refine rn (x := k) (k + 1) hkn (by omega) (by rw [hE]; repeat (first | exact trivial | refine ⟨rfl, ?_⟩)) (by repeat (first | exact SubL.nil | (apply SubL.cons; (repeat (first | exact At.here | apply At.there))) | exact SubL.refl _ | apply SubL.skip))
      · skip
        have hc1 : decide (t.court = s.court) = false := h2
        refine skp (h := ?_)
        refine q_seq (h := ?_)
        refine sq (h := ?_)
        refine rgD0 (by kernel_rfl) (h := ?_)
        refine tk 0 (hy := (by first | exact ldA | exact ldEA)) (h := ?_)
        refine tk 1 (hy := (by first | exact fa | exact faE)) (h := ?_)
        refine tk 2 (hy := (by first | exact ld | exact ldE)) (h := ?_)
        refine tk 3 (hy := mv) (h := ?_)
        refine tk 4 (hy := mv) (h := ?_)
        refine tk 5 (hy := ix (A := A) (m := na) (hb := by omega)) (h := ?_)
        refine tk 6 (hy := (by first | exact fa | exact faE)) (h := ?_)
        refine tk 7 (hy := ldE (A := A) (hk := encSe_at ht)) (h := ?_)
        refine one 8 (h := ?_)
        refine cl0 (hc := fun w hS => C_ref8_Share p s.job t.job j jt hmj htj hj hjt w (h.old hS)) (h := ?_)
        refine nx (h := ?_)
        refine dn (h := ?_)
        refine q_seq (h := ?_)
        refine cd (by exact rfl) (fun h4 => ?_) (fun h4 => ?_)
        · skip
          have hs1 : shB p s.job t.job = true := h4
          have hE := hstep
          unfold begR1 at hE
          simp only [hd1, hc1, hs1, cond_true, cond_false] at hE
          refine rgD0 (by kernel_rfl) (h := ?_)
          refine tk 0 (hy := mv) (h := ?_)
          refine tk 1 (hy := mv) (h := ?_)
          refine tk 2 (hy := mv) (h := ?_)
          refine tk 3 (hy := mv) (h := ?_)
          refine tk 4 (hy := ix (A := A) (m := na) (hb := by omega)) (h := ?_)
          refine tk 5 (hy := (by first | exact fa | exact faE)) (h := ?_)
          refine tk 6 (hy := ldE (A := A) (hk := encSe_at ht)) (h := ?_)
          refine tk 7 (hy := ix (A := B) (m := p.jobs.length) (hb := by omega)) (h := ?_)
          refine tk 8 (hy := ldE (A := B) (hk := hte)) (h := ?_)
          refine tk 9 (hy := (by first | exact fa | exact faE)) (h := ?_)
          refine tk 10 (hy := (by first | exact ld | exact ldE)) (h := ?_)
          refine tk 11 (hy := addI (hb := by omega)) (h := ?_)
          refine tk 12 (hy := maxI) (h := ?_)
          refine tk 13 (hy := asg) (h := ?_)
          refine dn (h := ?_)
          refine q_blk_norm (h := ?_)
          refine q_seq (h := ?_)
          refine rg (h := ?_)
          refine WL.y (hy := mv) (h := ?_)
          refine WL.y (hy := addI) (h := ?_)
          refine WL.y (hy := asg) (h := ?_)
          refine WL.cut (by repeat (first | exact Cut.nil | apply Cut.hit | apply Cut.miss (by exact rfl))) ?_
          refine nl (h := ?_)
          refine rn (x := k) (k + 1) hkn (by omega) (by rw [hE]; repeat (first | exact trivial | refine ⟨rfl, ?_⟩)) (by repeat (first | exact SubL.nil | (apply SubL.cons; (repeat (first | exact At.here | apply At.there))) | exact SubL.refl _ | apply SubL.skip))
        · skip
          have hs1 : shB p s.job t.job = false := h4
          have hE := hstep
          unfold begR1 at hE
          simp only [hd1, hc1, hs1, cond_true, cond_false] at hE
          refine skp (h := ?_)
          refine q_blk_norm (h := ?_)
          refine q_seq (h := ?_)
          refine rg (h := ?_)
          refine WL.y (hy := mv) (h := ?_)
          refine WL.y (hy := addI) (h := ?_)
          refine WL.y (hy := asg) (h := ?_)
          refine WL.cut (by repeat (first | exact Cut.nil | apply Cut.hit | apply Cut.miss (by exact rfl))) ?_
          refine nl (h := ?_)
          refine rn (x := k) (k + 1) hkn (by omega) (by rw [hE]; repeat (first | exact trivial | refine ⟨rfl, ?_⟩)) (by repeat (first | exact SubL.nil | (apply SubL.cons; (repeat (first | exact At.here | apply At.there))) | exact SubL.refl _ | apply SubL.skip))
  · skip
    have hkn : k = na := by have := of_decide_eq_false h0; omega
    have hfin : begR p es s pre = begRk p es s pre k := by unfold begR; rw [hlen, hkn]
    refine et (h := ?_)
    refine q_then_exit (h := ?_)
    refine q_then_exit (h := ?_)
    refine q_blk_hit (h := ?_)
    refine q_seq (h := ?_)
    refine sq (h := ?_)
    refine rg (h := ?_)
    refine WL.y (hy := mv) (h := ?_)
    refine WL.y (hy := asg) (h := ?_)
    refine WL.cut (by repeat (first | exact Cut.nil | apply Cut.hit | apply Cut.miss (by exact rfl))) ?_
    refine nl (h := ?_)
    refine q_seq (h := ?_)
    refine rtn (h := ?_)
    refine q_ret (hR := ?_)
    rw [hfin]
    exact fun w hS => ⟨rfl, hS.sub .nil⟩
end Go.Proofs.Ytngelilffleimaa

namespace Go.Proofs.Ytngelilffleimaa
open Go Go.RowKit

theorem low_rng {p : Pg} (hp : POk p) (s : Se) : 0 ≤ p.low s ∧ p.low s ≤ 1440 := by
  unfold Pg.low
  cases e : p.days[s.day.toNat]? with
  | none => dsimp only; omega
  | some d =>
    dsimp only
    cases g : d.sp[s.court.toNat]? with
    | none => dsimp only; omega
    | some c =>
      have := (hp.dy _ d (List.getElem?_eq_some_iff.1 e).1 e).2 _ c (List.getElem?_eq_some_iff.1 g).1 g
      dsimp only; omega
theorem ear_rng {p : Pg} (hp : POk p) (i : Int) : 0 ≤ p.ear i ∧ p.ear i ≤ 1440 := by
  unfold Pg.ear
  cases e : p.jobs[i.toNat]? with
  | none => dsimp only; omega
  | some j => exact (hp.jb _ j (List.getElem?_eq_some_iff.1 e).1 e).ear
theorem begR_rng {p : Pg} (hp : POk p) {es : List Int} {B : Int} (hB : 1440 ≤ B) (he : ∀ i : Nat, 0 ≤ es.getD i 0 ∧ es.getD i 0 ≤ B) (s : Se) (pre : List Se) : 0 ≤ begR p es s pre ∧ begR p es s pre ≤ B + 600 := by
  have h1 := low_rng hp s
  have h2 := ear_rng hp s.job
  have h3 := (begR_ge p es s pre).1
  have h4 := hp.rest
  refine ⟨by omega, begR_le (by omega) fun t _ _ => ?_⟩
  have := he t.job.toNat
  exact ⟨fun _ => by omega, fun _ => by omega⟩
theorem gset_rng {l : List Int} {A B v : Int} {i : Nat} (h : ∀ j : Nat, 0 ≤ l.getD j 0 ∧ l.getD j 0 ≤ A) (hA : A ≤ B) (hv : 0 ≤ v ∧ v ≤ B) : ∀ j : Nat, 0 ≤ (l.set i v).getD j 0 ∧ (l.set i v).getD j 0 ≤ B := fun j => by
  have hj := h j
  by_cases e : i = j
  · subst e
    by_cases g : i < l.length
    · rw [gset_eq g]; exact hv
    · rw [List.set_eq_of_length_le (by omega)]; omega
  · rw [gset_ne e]; omega
theorem runRk_rng {p : Pg} (hp : POk p) {tk : List Int} (ht : ∀ i : Nat, 0 ≤ tk.getD i 0 ∧ tk.getD i 0 ≤ 600) (o : List Se) : ∀ k : Nat, ∀ j : Nat, 0 ≤ (runRk p tk o k).2.getD j 0 ∧ (runRk p tk o k).2.getD j 0 ≤ 1440 + 1200 * (k : Int)
  | 0, j => by
    have : (List.replicate p.jobs.length (0 : Int)).getD j 0 = 0 := by
      rw [List.getD_eq_getElem?_getD, List.getElem?_replicate]
      by_cases e : j < p.jobs.length
      · rw [if_pos e]; rfl
      · rw [if_neg e]; rfl
    show 0 ≤ (List.replicate p.jobs.length (0 : Int)).getD j 0 ∧ _
    rw [this]; exact ⟨Int.le_refl _, by show (List.replicate p.jobs.length (0 : Int)).getD j 0 ≤ _; rw [this]; omega⟩
  | k + 1, j => by
    have ih := runRk_rng hp ht o k
    cases e : o[k]? with
    | none =>
      rw [runRk, e]
      have := ih j
      dsimp only; omega
    | some s =>
      rw [runRk_succ e]
      have hb := begR_rng hp (B := 1440 + 1200 * (k : Int)) (by omega) ih s (o.take k)
      have := ht s.job.toNat
      exact gset_rng ih (by omega) (by omega) j
set_option maxRecDepth 100000 in
set_option maxHeartbeats 1000000 in
theorem C_ref8_Run (p : Pg) (hp : POk p) (o : List Se) (hO : OOk p o) (tq : List Int) (hl : tq.length = p.jobs.length) (htk : ∀ i : Nat, 0 ≤ tq.getD i 0 ∧ tq.getD i 0 ≤ 600) (oA : Option Addr) (n oc : Nat) (hoc : n ≤ oc) (tA : Option Addr) (tc : Nat) (w : World) (h : PgR w p) (ho : Rd w oA 3 n (encSe o)) (ht : Rd w tA 1 p.jobs.length (enI tq)) :
    CR Try.prog 13 [p.val, .slice oA n oc, .slice tA p.jobs.length tc] w (fun _ : Nat × Nat => True) (fun q => .tuple #[.slice (some ⟨q.1, 0, none⟩) p.jobs.length p.jobs.length, .slice (some ⟨q.2, 0, none⟩) p.jobs.length p.jobs.length]) (fun q => [.own (some ⟨q.1, 0, none⟩) p.jobs.length 3 1 p.jobs.length (enI (runRk p tq o n).1), .own (some ⟨q.2, 0, none⟩) p.jobs.length 3 1 p.jobs.length (enI (runRk p tq o n).2)]) := by
  have hlen : o.length = n := by have := ho.len; rwa [encSe_len] at this
  have hnj := hp.nj
  have hon := hO.n
  refine ⟨en Try.func13 Try.ntmps13 ((((St.init w).share (e := .ro p.jA 6 p.jobs.length (encJb p.jobs)) h.j rfl rfl rfl).share (e := .ro oA 3 n (encSe o)) ho rfl rfl rfl).share (e := .ro tA 1 p.jobs.length (enI tq)) ht rfl rfl rfl) (h := fun F => ?_)⟩
  refine sq (h := ?_)
  refine rg (h := ?_)
  refine bxA (h := fun b0 => ?_)
  refine WL.y (hy := asg) (h := ?_)
  refine WL.cut (by repeat (first | exact Cut.nil | apply Cut.hit | apply Cut.miss (by exact rfl))) ?_
  refine WL.y (hy := asg) (h := ?_)
  refine WL.cut (by repeat (first | exact Cut.nil | apply Cut.hit | apply Cut.miss (by exact rfl))) ?_
  refine nl (h := ?_)
  refine q_seq (h := ?_)
  refine ct (X := Nat × Nat) (fun _ => True) (fun x => [(1, .slice oA n oc), (2, .slice tA p.jobs.length tc), (3, .pointer (some ⟨b0, 0, none⟩)), (6, .slice (some ⟨x.1, 0, none⟩) p.jobs.length p.jobs.length), (7, .slice (some ⟨x.2, 0, none⟩) p.jobs.length p.jobs.length)]) (fun x => [.own (some ⟨x.1, 0, none⟩) p.jobs.length 3 1 p.jobs.length (enI (List.replicate p.jobs.length 0)), .own (some ⟨x.2, 0, none⟩) p.jobs.length 3 1 p.jobs.length (enI (List.replicate p.jobs.length 0)), .blk b0 25 p.cells, .ro oA 3 n (encSe o), .ro tA 1 p.jobs.length (enI tq)]) (h1 := ?_) (h2 := ?_)
  · skip
    refine rgD0 (by kernel_rfl) (h := ?_)
    refine tk 0 (hy := (by first | exact fa | exact faE)) (h := ?_)
    refine tk 1 (hy := (by first | exact ld | exact ldE)) (h := ?_)
    refine tk 2 (hy := lenS) (h := ?_)
    refine tk 4 (hy := (by first | exact fa | exact faE)) (h := ?_)
    refine tk 5 (hy := (by first | exact ld | exact ldE)) (h := ?_)
    refine tk 6 (hy := lenS) (h := ?_)
    refine two 3 7 (h1 := ?_) (h2 := ?_)
    · skip
      refine mks p.jobs.length (hx := by exact rfl) (hy := by exact rfl) (h := fun bA => ?_)
      rw [enI_rep8]
      refine nx (h := ?_)
      refine tk 8 (hy := asg) (h := ?_)
      refine one 7 (h := ?_)
      refine mks p.jobs.length (hx := by exact rfl) (hy := by exact rfl) (h := fun bB => ?_)
      rw [enI_rep8]
      refine nx (h := ?_)
      refine tk 9 (hy := asg) (h := ?_)
      refine dn (h := ?_)
      exact ctn (x := (bA, bB)) trivial (by repeat (first | exact trivial | refine ⟨rfl, ?_⟩)) (by repeat (first | exact SubL.nil | (apply SubL.cons; (repeat (first | exact At.here | apply At.there))) | exact SubL.refl _ | apply SubL.skip))
    · skip
      refine mks p.jobs.length (hx := by exact rfl) (hy := by exact rfl) (h := fun bB => ?_)
      rw [enI_rep8]
      refine nx (h := ?_)
      refine one 3 (h := ?_)
      refine mks p.jobs.length (hx := by exact rfl) (hy := by exact rfl) (h := fun bA => ?_)
      rw [enI_rep8]
      refine nx (h := ?_)
      refine tk 8 (hy := asg) (h := ?_)
      refine tk 9 (hy := asg) (h := ?_)
      refine dn (h := ?_)
      exact ctn (x := (bA, bB)) trivial (by repeat (first | exact trivial | refine ⟨rfl, ?_⟩)) (by repeat (first | exact SubL.nil | (apply SubL.cons; (repeat (first | exact At.here | apply At.there))) | exact SubL.refl _ | apply SubL.skip))
  rintro ⟨m1, m2⟩ -
  refine sq (h := ?_)
  refine sq (h := ?_)
  refine rg (h := ?_)
  refine WL.y (hy := asg) (h := ?_)
  refine WL.cut (by repeat (first | exact Cut.nil | apply Cut.hit | apply Cut.miss (by exact rfl))) ?_
  refine nl (h := ?_)
  refine q_seq (h := ?_)
  refine bk (h := ?_)
  refine lp (X := Nat) (I := fun k => k ≤ n) (le := fun k => [(1, .slice oA n oc), (2, .slice tA p.jobs.length tc), (3, .pointer (some ⟨b0, 0, none⟩)), (6, .slice (some ⟨m1, 0, none⟩) p.jobs.length p.jobs.length), (7, .slice (some ⟨m2, 0, none⟩) p.jobs.length p.jobs.length), (8, .int .i64 k)]) (Le := fun k => [.own (some ⟨m1, 0, none⟩) p.jobs.length 3 1 p.jobs.length (enI (runRk p tq o k).1), .own (some ⟨m2, 0, none⟩) p.jobs.length 3 1 p.jobs.length (enI (runRk p tq o k).2), .blk b0 25 p.cells, .ro oA 3 n (encSe o), .ro tA 1 p.jobs.length (enI tq)]) (μ := fun k => n - k) 0 (Nat.zero_le _) (by repeat (first | exact trivial | refine ⟨rfl, ?_⟩)) (by repeat (first | exact SubL.nil | (apply SubL.cons; (repeat (first | exact At.here | apply At.there))) | exact SubL.refl _ | apply SubL.skip)) (fun k hk => ?_)
  refine sq (h := ?_)
  refine sq (h := ?_)
  refine rg (h := ?_)
  refine WL.y (hy := mv) (h := ?_)
  refine WL.y (hy := mv) (h := ?_)
  refine WL.y (hy := lenS) (h := ?_)
  refine WL.y (hy := lss) (h := ?_)
  refine nl (h := ?_)
  refine q_seq (h := ?_)
  refine cd (by exact rfl) (fun h0 => ?_) (fun h0 => ?_)
  · skip
    have hkn : k < n := by have := of_decide_eq_true h0; omega
    obtain ⟨s, hs⟩ : ∃ s, o[k]? = some s := ⟨_, List.getElem?_eq_getElem (by omega)⟩
    have hm := hO.at_ k s (by omega) hs
    have hmj := hm.job
    have hrl := runRk_len p tq o k
    have hrr := runRk_rng hp htk o k
    have hbr := begR_rng hp (B := 1440 + 1200 * (k : Int)) (by omega) hrr s (o.take k)
    have htj := htk s.job.toNat
    have hrs := runRk_succ (p := p) (tk := tq) hs
    have e1 := enI_at (getD_get (l := (runRk p tq o k).1) (i := s.job.toNat) (by omega))
    have e2 := enI_at (getD_get (l := (runRk p tq o k).2) (i := s.job.toNat) (by omega))
    have e3 := enI_at (getD_get (l := tq) (i := s.job.toNat) (by omega))
    have e4 : (enI ((runRk p tq o k).1.set s.job.toNat (begR p (runRk p tq o k).2 s (o.take k))))[s.job.toNat]? = some [.int .i64 (begR p (runRk p tq o k).2 s (o.take k))] := enI_at (List.getElem?_set_self (by omega))
    refine skp (h := ?_)
    refine q_seq (h := ?_)
    refine sq (h := ?_)
    refine bk (h := ?_)
    refine sq (h := ?_)
    refine rg (h := ?_)
    refine WL.y (hy := mv) (h := ?_)
    refine WL.y (hy := mv) (h := ?_)
    refine WL.y (hy := ix (A := oA) (m := n) (hb := by omega)) (h := ?_)
    refine WL.y (hy := ldEW (A := oA) (hk := encSe_at hs)) (h := ?_)
    refine al (h := fun b1 => ?_)
    first | refine stA (h := ?_) | refine stEA (h := ?_)
    refine nl (h := ?_)
    refine q_seq (h := ?_)
    refine sq (h := ?_)
    refine WC.pre (A := oA) (m := n) (by repeat (first | exact At.here | apply At.there)) k hk ?_
    rw [encSe_take]
    refine rgD (by kernel_rfl) [(1000000, .blk b0 25 p.cells), (1000000, .blk b1 41 s.cells)] (by repeat (first | exact HS.nil | (apply HS.keep; (repeat (first | exact At.here | apply At.there))) | (apply HS.ro; (repeat (first | exact Rds.ro | exact Rds.own | apply Rds.there))))) (h := ?_)
    refine tk 0 (hy := mv) (h := ?_)
    refine tk 1 (hy := (by first | exact fa | exact faE)) (h := ?_)
    refine tk 2 (hy := (by first | exact ld | exact ldE)) (h := ?_)
    refine tk 3 (hy := (by first | exact ldA | exact ldEA)) (h := ?_)
    refine tk 4 (hy := mv) (h := ?_)
    refine tk 5 (hy := mv) (h := ?_)
    refine tk 6 (hy := slP (A := oA) (m := n) (cap := oc) (hi' := k) (hc := by omega)) (h := ?_)
    refine tk 7 (hy := mv) (h := ?_)
    refine tk 8 (hy := (by first | exact ldA | exact ldEA)) (h := ?_)
    refine one 9 (h := ?_)
    refine cl0 (hc := fun w hS => C_ref8_Begin p hp (o.take k) s hm (fun t ht => by
      obtain ⟨l, hu⟩ := hO.job (List.mem_of_mem_take ht)
      exact hu.job) (runRk p tq o k).2 hrl.2 (fun i => by have := hrr i; omega) oA k oc (some ⟨m2, 0, none⟩) p.jobs.length (by omega) w (h.old hS) (hS.get (by repeat (first | exact Rds.ro | exact Rds.own | apply Rds.there))) (hS.get (by repeat (first | exact Rds.ro | exact Rds.own | apply Rds.there)))) (h := ?_)
    refine nx (h := ?_)
    refine one 10 (h := ?_)
    refine WL.y (hy := ix (A := some ⟨m1, 0, none⟩) (m := p.jobs.length) (hb := by omega)) (h := ?_)
    refine nx (h := ?_)
    refine one 11 (h := ?_)
    refine stE (A := some ⟨m1, 0, none⟩) (k := s.job.toNat) (j := 0) (hk := e1) (h := ?_)
    rw [enI_put8]
    refine nx (h := ?_)
    refine dn (h := ?_)
    refine q_seq (h := ?_)
    refine rgD (by kernel_rfl) [(1000000, .own (some ⟨m1, 0, none⟩) p.jobs.length 3 1 p.jobs.length (enI ((runRk p tq o k).1.set s.job.toNat (begR p (runRk p tq o k).2 s (o.take k))))), (1000000, .blk b1 41 s.cells), (1000000, .ro tA 1 p.jobs.length (enI tq))] (by repeat (first | exact HS.nil | (apply HS.keep; (repeat (first | exact At.here | apply At.there))) | (apply HS.ro; (repeat (first | exact Rds.ro | exact Rds.own | apply Rds.there))))) (h := ?_)
    refine tk 0 (hy := mv) (h := ?_)
    refine tk 1 (hy := (by first | exact fa | exact faE)) (h := ?_)
    refine tk 2 (hy := (by first | exact ld | exact ldE)) (h := ?_)
    refine tk 3 (hy := mv) (h := ?_)
    refine tk 4 (hy := (by first | exact fa | exact faE)) (h := ?_)
    refine tk 5 (hy := (by first | exact ld | exact ldE)) (h := ?_)
    refine tk 6 (hy := ix (A := some ⟨m1, 0, none⟩) (m := p.jobs.length) (hb := by omega)) (h := ?_)
    refine tk 7 (hy := ldE (A := some ⟨m1, 0, none⟩) (hk := e4)) (h := ?_)
    refine tk 8 (hy := mv) (h := ?_)
    refine tk 9 (hy := (by first | exact fa | exact faE)) (h := ?_)
    refine tk 10 (hy := (by first | exact ld | exact ldE)) (h := ?_)
    refine tk 11 (hy := ix (A := tA) (m := p.jobs.length) (hb := by omega)) (h := ?_)
    refine tk 12 (hy := ldE (A := tA) (hk := e3)) (h := ?_)
    refine tk 13 (hy := addI (hb := by omega)) (h := ?_)
    refine one 14 (h := ?_)
    refine WL.y (hy := ix (A := some ⟨m2, 0, none⟩) (m := p.jobs.length) (hb := by omega)) (h := ?_)
    refine nx (h := ?_)
    refine one 15 (h := ?_)
    refine stE (A := some ⟨m2, 0, none⟩) (k := s.job.toNat) (j := 0) (hk := e2) (h := ?_)
    rw [enI_put8]
    refine nx (h := ?_)
    refine dn (h := ?_)
    refine q_blk_norm (h := ?_)
    refine q_seq (h := ?_)
    refine rg (h := ?_)
    refine WL.y (hy := mv) (h := ?_)
    refine WL.y (hy := addI) (h := ?_)
    refine WL.y (hy := asg) (h := ?_)
    refine WL.cut (by repeat (first | exact Cut.nil | apply Cut.hit | apply Cut.miss (by exact rfl))) ?_
    refine nl (h := ?_)
    refine rn (x := k) (k + 1) hkn (by omega) (by repeat (first | exact trivial | refine ⟨rfl, ?_⟩)) (by rw [hrs]; exact (by repeat (first | exact SubL.nil | (apply SubL.cons; (repeat (first | exact At.here | apply At.there))) | exact SubL.refl _ | apply SubL.skip)))
  · skip
    have hkn : k = n := by have := of_decide_eq_false h0; omega
    rw [hkn]
    refine et (h := ?_)
    refine q_then_exit (h := ?_)
    refine q_then_exit (h := ?_)
    refine q_blk_hit (h := ?_)
    refine q_seq (h := ?_)
    refine sq (h := ?_)
    refine rg (h := ?_)
    refine WL.y (hy := mv) (h := ?_)
    refine WL.y (hy := mv) (h := ?_)
    refine WL.y (hy := asg) (h := ?_)
    refine WL.cut (by repeat (first | exact Cut.nil | apply Cut.hit | apply Cut.miss (by exact rfl))) ?_
    refine WL.y (hy := asg) (h := ?_)
    refine WL.cut (by repeat (first | exact Cut.nil | apply Cut.hit | apply Cut.miss (by exact rfl))) ?_
    refine nl (h := ?_)
    refine q_seq (h := ?_)
    refine rtn (h := ?_)
    refine q_ret (hR := ?_)
    exact fun w hS => ⟨(m1, m2), trivial, rfl, hS.sub (by repeat (first | exact SubL.nil | (apply SubL.cons; (repeat (first | exact At.here | apply At.there))) | exact SubL.refl _ | apply SubL.skip))⟩
end Go.Proofs.Ytngelilffleimaa

namespace Go.Proofs.Ytngelilffleimaa
open Go Go.RowKit

theorem joinV_nil {gs : List Pt} {ord : List Int} {minute : Int} {s : Cr} (hw : s.ws = []) (ha : ∀ i ∈ ord, arrV gs minute i = false) : joinV gs ord minute s = s := by
  have h1 : ord.filter (arrV gs minute) = [] := List.filter_eq_nil_iff.2 fun i hi => by rw [ha i hi]; simp
  obtain ⟨fr, ps, ws, inn⟩ := s
  dsimp only at hw
  subst hw
  simp [joinV, keptV, h1]
theorem freeTo_zero {fs : List Fe} {minute : Int} (h : ∀ f ∈ fs, f.1 ≠ minute) : ∀ k, freeTo fs minute k = 0
  | 0 => rfl
  | k + 1 => by
    rw [freeTo]
    cases hk : fs[k]? with
    | none => exact freeTo_zero h k
    | some f =>
      dsimp only
      rw [freeTo_zero h k, decide_eq_false (h f (List.mem_of_getElem? hk))]; rfl
theorem minute_stay {q : Qu} {rate : Int} {ord : List Int} {minute : Int} {s : Cr} (hw : s.ws = []) (ha : ∀ i ∈ ord, arrV q.gs minute i = false) (hf : ∀ f ∈ q.fs, f.1 ≠ minute) : minuteV q rate ord minute s = s := by
  have h0 : freedV q minute s = s := by
    unfold freedV freeAll
    rw [freeTo_zero hf]
    obtain ⟨fr, ps, ws, inn⟩ := s
    simp
  have h1 := joinV_nil (gs := q.gs) (ord := ord) (minute := minute) hw ha
  unfold minuteV
  rw [h0, h1, passV_stop (.inr hw)]
  cases decide (q.opn ≤ minute) <;> rfl
theorem arr_no {gs : List Pt} {minute : Int} (h : ∀ g ∈ gs, g.at_ < minute) (i : Int) : arrV gs minute i = false := by
  unfold arrV
  cases hg : gs[i.toNat]? with
  | none => rfl
  | some g =>
    have := h g (List.mem_of_getElem? hg)
    dsimp only
    rw [decide_eq_false (by omega)]; rfl
theorem run_stay {q : Qu} {rate more : Int} {K : Nat} (hw : (runTo q rate more K).ws = []) (hg : ∀ g ∈ q.gs, g.at_ < K) (hf : ∀ f ∈ q.fs, f.1 < K) : ∀ d, runTo q rate more (K + d) = runTo q rate more K
  | 0 => rfl
  | d + 1 => by
    have ih := run_stay hw hg hf d
    rw [show K + (d + 1) = K + d + 1 from rfl, runTo, ih]
    exact minute_stay hw (fun i _ => arr_no (fun g hx => by have := hg g hx; push_cast; omega) i) (fun f hx => by have := hf f hx; push_cast; omega)

def exQ : Qu := ⟨10, 2, 3, 5, [⟨1, 0, 2, -1⟩, ⟨2, 3, 4, 12⟩, ⟨3, 3, 2, -1⟩, ⟨4, 11, 1, -1⟩], [(13, 3)]⟩
def exX : Tm := ⟨60, 120, [30, 90, 200]⟩
def exL : List Tkt := [⟨1, 1001, 0, 0⟩, ⟨2, 1001, 1, 0⟩, ⟨3, 1001, 1, 600⟩, ⟨4, 1001, 2, 0⟩]
theorem ex_g : ∀ g ∈ exQ.gs, g.at_ < ((15 : Nat) : Int) := by decide
theorem ex_f : ∀ f ∈ exQ.fs, f.1 < ((15 : Nat) : Int) := by decide
theorem ex_run {rate more : Int} {r : List Int} (h : runTo exQ rate more 15 = ⟨(runTo exQ rate more 15).free, (runTo exQ rate more 15).passing, [], r⟩) : runV exQ rate more = r := by
  have hw : (runTo exQ rate more 15).ws = [] := by rw [h]
  rw [runV, show 1441 = 15 + 1426 from rfl, run_stay hw ex_g ex_f, h]
theorem ex20 : runV exQ 2 0 = [10, -1, 12, 13] := ex_run (by kernel_rfl)
theorem ex30 : runV exQ 3 0 = [10, -1, 12, 12] := ex_run (by kernel_rfl)
theorem ex_inI {k : Nat} {more i : Int} {r : Int} {l : List Int} {rate : Int} (hr : exQ.lo + k = rate) (h : runV exQ rate more = l) (he : l.getD i.toNat 0 = r) : inI exQ more k i = r := by rw [inI, hr, h, he]
theorem ex_s2 {i more : Int} {a b : Int} (h0 : inI exQ more 0 i = a) (h1 : inI exQ more 1 i = b) : sureV exQ i more = (match (bif decide (a < 0) then none else some (min 1440 a, max (-1) a) : Option (Int × Int)) with | none => none | some z => bif decide (b < 0) then none else some (min z.1 b, max z.2 b)) := by
  have hn : nR exQ = 2 := by kernel_rfl
  have h2 : ∀ q : Qu, sureTo q i more 2 = (match (bif decide (inI q more 0 i < 0) then none else some (min 1440 (inI q more 0 i), max (-1) (inI q more 0 i)) : Option (Int × Int)) with | none => none | some z => bif decide (inI q more 1 i < 0) then none else some (min z.1 (inI q more 1 i), max z.2 (inI q more 1 i))) := fun q => rfl
  rw [sureV, hn, h2, h0, h1]
theorem ex_sure : sureP exQ 4 = ⟨12, 13, 0⟩ := by
  have hE : grpE exQ 4 = 0 := by kernel_rfl
  have hI : grpI exQ.gs 4 = 3 := by kernel_rfl
  have h : sureV exQ 3 0 = some (12, 13) := by rw [ex_s2 (ex_inI (by decide) ex20 (by rfl)) (ex_inI (by decide) ex30 (by rfl))]; rfl
  rw [sureP, hE, hI, h]; rfl
theorem ex_total : totV exX exL = 1501 := by kernel_rfl
theorem ex_are : areT exX exL = true := by kernel_rfl
structure EXA where
  (a : QA) (pA lA : Option Addr) (pc lc : Nat)
theorem C_law11_Example (w : World) : CR Try.prog 22 [] w (fun _ : EXA => True) (fun x => .tuple #[exQ.val x.a, exX.val x.pA x.pc, .slice x.lA 4 x.lc]) (fun x => [.own x.a.gA x.a.gc 59 4 4 (encPt exQ.gs), .own x.a.fA x.a.fc 64 2 1 (encF exQ.fs), .own x.pA x.pc 3 1 3 (enI exX.pl), .own x.lA x.lc 84 4 4 (encTk exL)]) := by
  refine ⟨en Try.func22 Try.ntmps22 (St.init w) (h := fun F => ?_)⟩
  refine sq (h := ?_)
  refine rg (h := ?_)
  refine al (h := fun b0 => ?_)
  refine al (h := fun b1 => ?_)
  refine WL.y (hy := asg) (h := ?_)
  refine nl (h := ?_)
  refine q_seq (h := ?_)
  refine sq (h := ?_)
  refine rg (h := ?_)
  refine WL.y (hy := bd) (h := ?_)
  refine WL.y (hy := bd) (h := ?_)
  refine WL.y (hy := bd) (h := ?_)
  refine WL.y (hy := bd) (h := ?_)
  refine WL.y (hy := bd) (h := ?_)
  refine bs (h := fun b2 => ?_)
  refine WL.y (hy := bd) (h := ?_)
  refine bs (h := fun b3 => ?_)
  refine WL.y (hy := bd) (h := ?_)
  refine al (h := fun b4 => ?_)
  first | refine stA (h := ?_) | refine stEA (h := ?_)
  refine nl (h := ?_)
  refine q_seq (h := ?_)
  refine sq (h := ?_)
  refine rg (h := ?_)
  refine WL.y (hy := (by first | exact ldA | exact ldEA)) (h := ?_)
  refine bs (h := fun b5 => ?_)
  refine WL.y (hy := bd) (h := ?_)
  refine WL.y (hy := bd) (h := ?_)
  refine WL.y (hy := bd) (h := ?_)
  refine WL.y (hy := bd) (h := ?_)
  refine WL.y (hy := bd) (h := ?_)
  refine bs (h := fun b6 => ?_)
  first | refine stA (h := ?_) | refine stEA (h := ?_)
  first | refine stA (h := ?_) | refine stEA (h := ?_)
  refine WL.y (hy := asg) (h := ?_)
  refine nl (h := ?_)
  refine q_seq (h := ?_)
  refine rtn (h := ?_)
  refine q_ret (hR := ?_)
  exact fun w hS => ⟨⟨⟨_, _, _, _⟩, _, _, _, _⟩, trivial, rfl, hS.sub (by repeat (first | exact SubL.nil | (apply SubL.cons; (repeat (first | exact At.here | apply At.there))) | exact SubL.refl _ | apply SubL.skip))⟩
end Go.Proofs.Ytngelilffleimaa

namespace Go.Proofs.Ytngelilffleimaa
open Go Go.RowKit

structure E8A where
  (dA s0 s1 jA fA oA : Option Addr) (dc c0 c1 jc fc oc : Nat)
abbrev exPg (a : E8A) : Pg := ⟨a.dA, a.dc, [⟨[(600, 900), (600, 780)], a.s0, a.c0⟩, ⟨[(600, 800), (600, 600)], a.s1, a.c1⟩], 30, a.jA, a.jc, [⟨(60, 120), [], none, 0, [], none, 0, 1, 0⟩, ⟨(60, 100), [], none, 0, [], none, 0, 1, 0⟩, ⟨(90, 150), [0, 1], a.fA, a.fc, [], none, 0, 1, 0⟩]⟩
abbrev exOr : List Se := [⟨0, 0, 0⟩, ⟨1, 0, 1⟩, ⟨2, 0, 0⟩]
theorem asc_nil (b : Int) : Asc [] b 0 := Asc.zero _ _
theorem ex8_p (a : E8A) : POk (exPg a) := by
  refine ⟨⟨of_decide_eq_true rfl, of_decide_eq_true rfl⟩, ⟨of_decide_eq_true rfl, of_decide_eq_true rfl⟩, of_decide_eq_true rfl, ⟨of_decide_eq_true rfl, of_decide_eq_true rfl⟩, fun k d hk hd => ?_, fun i j hi hj => ?_⟩
  · match k, hk with
    | 0, _ =>
      cases hd
      refine ⟨rfl, fun i s hi hs => ?_⟩
      match i, hi with
      | 0, _ => cases hs; exact of_decide_eq_true rfl
      | 1, _ => cases hs; exact of_decide_eq_true rfl
    | 1, _ =>
      cases hd
      refine ⟨rfl, fun i s hi hs => ?_⟩
      match i, hi with
      | 0, _ => cases hs; exact of_decide_eq_true rfl
      | 1, _ => cases hs; exact of_decide_eq_true rfl
  · match i, hi with
    | 0, _ => cases hj; exact ⟨of_decide_eq_true rfl, of_decide_eq_true rfl, of_decide_eq_true rfl, asc_nil _, asc_nil _, fun x hx => (by cases hx)⟩
    | 1, _ => cases hj; exact ⟨of_decide_eq_true rfl, of_decide_eq_true rfl, of_decide_eq_true rfl, asc_nil _, asc_nil _, fun x hx => (by cases hx)⟩
    | 2, _ =>
      cases hj
      refine ⟨of_decide_eq_true rfl, of_decide_eq_true rfl, of_decide_eq_true rfl, fun k x hk hx => ?_, asc_nil _, fun x hx => (by cases hx)⟩
      match k, hk with
      | 0, _ => cases hx; exact ⟨of_decide_eq_true rfl, of_decide_eq_true rfl, fun y h0 => absurd h0 (of_decide_eq_true rfl)⟩
      | 1, _ => cases hx; exact ⟨of_decide_eq_true rfl, of_decide_eq_true rfl, fun y _ hy => by cases hy; exact of_decide_eq_true rfl⟩
theorem ex8_o (a : E8A) : OOk (exPg a) exOr := by
  refine ⟨rfl, fun k s hk hs => ?_⟩
  match k, hk with
  | 0, _ =>
    cases hs
    exact ⟨of_decide_eq_true rfl, fun t ht => (by cases ht), of_decide_eq_true rfl, fun j hj => by cases hj; exact of_decide_eq_true rfl, of_decide_eq_true rfl, fun t ht => (by cases ht), fun j hj x hx => by cases hj; cases hx⟩
  | 1, _ =>
    cases hs
    refine ⟨of_decide_eq_true rfl, fun t ht => ?_, of_decide_eq_true rfl, fun j hj => by cases hj; exact of_decide_eq_true rfl, of_decide_eq_true rfl, fun t ht => ?_, fun j hj x hx => by cases hj; cases hx⟩
    · rw [List.mem_singleton.1 (show t ∈ [(⟨0, 0, 0⟩ : Se)] from ht)]; exact of_decide_eq_true rfl
    · rw [List.mem_singleton.1 (show t ∈ [(⟨0, 0, 0⟩ : Se)] from ht)]; exact of_decide_eq_true rfl
  | 2, _ =>
    cases hs
    have h2 : ∀ t ∈ exOr.take 2, t = ⟨0, 0, 0⟩ ∨ t = ⟨1, 0, 1⟩ := fun t ht => by
      rcases List.mem_cons.1 (show t ∈ [(⟨0, 0, 0⟩ : Se), ⟨1, 0, 1⟩] from ht) with h | h
      · exact .inl h
      · exact .inr (List.mem_singleton.1 h)
    refine ⟨of_decide_eq_true rfl, fun t ht => ?_, of_decide_eq_true rfl, fun j hj => by cases hj; exact of_decide_eq_true rfl, of_decide_eq_true rfl, fun t ht => ?_, fun j hj x hx => ?_⟩
    · rcases h2 t ht with rfl | rfl <;> exact of_decide_eq_true rfl
    · rcases h2 t ht with rfl | rfl <;> exact of_decide_eq_true rfl
    · cases hj
      rcases List.mem_cons.1 (show x ∈ [(0 : Int), 1] from hx) with rfl | hx
      · exact ⟨⟨0, 0, 0⟩, List.mem_cons_self, rfl⟩
      · rw [List.mem_singleton.1 hx]; exact ⟨⟨1, 0, 1⟩, List.mem_cons_of_mem _ List.mem_cons_self, rfl⟩
theorem ex8_run (a : E8A) : (runT (exPg a) hiG exOr).es = [720, 700, 900] := by rfl
theorem ex8_f (a : E8A) : FitI (exPg a) exOr := by
  intro i s d c hs hd hc
  rw [ex8_run]
  match i with
  | 0 => cases hs; cases hd; cases hc; exact of_decide_eq_true rfl
  | 1 => cases hs; cases hd; cases hc; exact of_decide_eq_true rfl
  | 2 => cases hs; cases hd; cases hc; exact of_decide_eq_true rfl
  | i + 3 => cases hs
theorem C_law8_Example (w : World) : CR Try.prog 20 [] w (fun _ : E8A => True) (fun a => .tuple #[(exPg a).val, .slice a.oA 3 a.oc]) (fun a => [.own a.dA a.dc 37 1 2 (encDy (exPg a).days), .own a.s0 a.c0 43 2 2 (encSn [(600, 900), (600, 780)]), .own a.s1 a.c1 43 2 2 (encSn [(600, 800), (600, 600)]), .own a.jA a.jc 45 6 3 (encJb (exPg a).jobs), .own a.fA a.fc 3 1 2 (enI [0, 1]), .own a.oA a.oc 41 3 3 (encSe exOr)]) := by
  refine ⟨en Try.func20 Try.ntmps20 (St.init w) (h := fun F => ?_)⟩
  refine sq (h := ?_)
  refine rg (h := ?_)
  refine al (h := fun b0 => ?_)
  refine WL.y (hy := asg) (h := ?_)
  refine nl (h := ?_)
  refine q_seq (h := ?_)
  refine sq (h := ?_)
  refine rg (h := ?_)
  refine WL.y (hy := bd) (h := ?_)
  refine WL.y (hy := bd) (h := ?_)
  refine al (h := fun b1 => ?_)
  refine al (h := fun b2 => ?_)
  first | refine stA (h := ?_) | refine stEA (h := ?_)
  first | refine stA (h := ?_) | refine stEA (h := ?_)
  refine nl (h := ?_)
  refine q_seq (h := ?_)
  refine sq (h := ?_)
  refine rg (h := ?_)
  refine WL.y (hy := bd) (h := ?_)
  refine WL.y (hy := bd) (h := ?_)
  refine bs (h := fun b3 => ?_)
  refine WL.y (hy := bd) (h := ?_)
  refine WL.y (hy := bd) (h := ?_)
  refine bs (h := fun b4 => ?_)
  refine bs (h := fun b5 => ?_)
  refine WL.y (hy := (by first | exact ldA | exact ldEA)) (h := ?_)
  refine WL.y (hy := bd) (h := ?_)
  refine WL.y (hy := (by first | exact ldA | exact ldEA)) (h := ?_)
  refine WL.y (hy := bd) (h := ?_)
  refine WL.y (hy := bd) (h := ?_)
  refine bs (h := fun b6 => ?_)
  refine WL.y (hy := bd) (h := ?_)
  refine bs (h := fun b7 => ?_)
  refine WL.y (hy := bd) (h := ?_)
  refine WL.y (hy := bd) (h := ?_)
  refine WL.y (hy := bd) (h := ?_)
  refine WL.y (hy := bd) (h := ?_)
  refine bs (h := fun b8 => ?_)
  first | refine stA (h := ?_) | refine stEA (h := ?_)
  refine WL.y (hy := asg) (h := ?_)
  refine nl (h := ?_)
  refine q_seq (h := ?_)
  refine rtn (h := ?_)
  refine q_ret (hR := ?_)
  exact fun w hS => ⟨⟨_, _, _, _, _, _, _, _, _, _, _, _⟩, trivial, rfl, hS.sub (by repeat (first | exact SubL.nil | (apply SubL.cons; (repeat (first | exact At.here | apply At.there))) | exact SubL.refl _ | apply SubL.skip))⟩
end Go.Proofs.Ytngelilffleimaa

namespace Go.Proofs.Ytngelilffleimaa
open Go Go.RowKit

theorem ex8_R {w : World} {a : E8A} (h1 : Rd w a.dA 1 2 (encDy (exPg a).days)) (h2 : Rd w a.jA 6 3 (encJb (exPg a).jobs)) (h3 : Rd w a.s0 2 2 (encSn [(600, 900), (600, 780)])) (h4 : Rd w a.s1 2 2 (encSn [(600, 800), (600, 600)])) (h5 : Rd w a.fA 1 2 (enI [0, 1])) : PgR w (exPg a) := by
  have hd : ∀ d ∈ (exPg a).days, d = ⟨[(600, 900), (600, 780)], a.s0, a.c0⟩ ∨ d = ⟨[(600, 800), (600, 600)], a.s1, a.c1⟩ := fun d hd => by
    rcases List.mem_cons.1 hd with h | h
    · exact .inl h
    · exact .inr (List.mem_singleton.1 h)
  have hj : ∀ j ∈ (exPg a).jobs, j = ⟨(60, 120), [], none, 0, [], none, 0, 1, 0⟩ ∨ j = ⟨(60, 100), [], none, 0, [], none, 0, 1, 0⟩ ∨ j = ⟨(90, 150), [0, 1], a.fA, a.fc, [], none, 0, 1, 0⟩ := fun j hj => by
    rcases List.mem_cons.1 hj with h | h
    · exact .inl h
    rcases List.mem_cons.1 h with h | h
    · exact .inr (.inl h)
    · exact .inr (.inr (List.mem_singleton.1 h))
  refine ⟨h1, h2, fun d h => ?_, fun j h => ?_, fun j h => ?_, of_decide_eq_true rfl, of_decide_eq_true rfl, fun d h => ?_, fun j h => ?_, fun j h => ?_⟩
  · rcases hd d h with rfl | rfl
    · exact h3
    · exact h4
  · rcases hj j h with rfl | rfl | rfl
    · exact Rd.nil w none 1
    · exact Rd.nil w none 1
    · exact h5
  · rcases hj j h with rfl | rfl | rfl
    · exact Rd.nil w none 1
    · exact Rd.nil w none 1
    · exact Rd.nil w none 1
  · rcases hd d h with rfl | rfl <;> exact of_decide_eq_true rfl
  · rcases hj j h with rfl | rfl | rfl <;> exact of_decide_eq_true rfl
  · rcases hj j h with rfl | rfl | rfl <;> exact of_decide_eq_true rfl
set_option maxRecDepth 100000 in
theorem C_top_admitted (w : World) : C0 Try.prog 7 [] w (.bool true) := by
  refine ⟨en Try.func7 Try.ntmps7 (St.init w) (h := fun F => ?_)⟩
  refine sq (h := ?_)
  refine rg (h := ?_)
  refine WL.y (hy := asg) (h := ?_)
  refine nl (h := ?_)
  refine q_seq (h := ?_)
  refine sq (h := ?_)
  refine rg (h := ?_)
  refine cl (hc := fun w hS => C_law8_Example w) (h := fun a _ => ?_)
  refine WL.y (hy := mv) (h := ?_)
  refine WL.y (hy := ex) (h := ?_)
  refine WL.y (hy := ex) (h := ?_)
  refine al (h := fun b0 => ?_)
  first | refine stA (h := ?_) | refine stEA (h := ?_)
  refine WL.y (hy := asg) (h := ?_)
  refine nl (h := ?_)
  refine q_seq (h := ?_)
  refine sq (h := ?_)
  refine rg (h := ?_)
  refine WL.y (hy := (by first | exact ldA | exact ldEA)) (h := ?_)
  refine WL.y (hy := mv) (h := ?_)
  refine cl0 (hc := fun w hS => C_play_Fits (exPg a) (ex8_p a) exOr (ex8_o a) (ex8_f a) a.oA 3 a.oc w (ex8_R (hS.get (by repeat (first | exact Rds.own | apply Rds.there))) (hS.get (by repeat (first | exact Rds.own | apply Rds.there))) (hS.get (by repeat (first | exact Rds.own | apply Rds.there))) (hS.get (by repeat (first | exact Rds.own | apply Rds.there))) (hS.get (by repeat (first | exact Rds.own | apply Rds.there)))) (hS.get (by repeat (first | exact Rds.own | apply Rds.there)))) (h := ?_)
  refine WL.y (hy := mv) (h := ?_)
  refine WL.y (hy := ex) (h := ?_)
  refine WL.y (hy := ex) (h := ?_)
  refine WL.y (hy := ex) (h := ?_)
  refine WL.y (hy := asg) (h := ?_)
  refine WL.y (hy := asg) (h := ?_)
  refine WL.y (hy := asg) (h := ?_)
  refine nl (h := ?_)
  refine q_seq (h := ?_)
  refine sq (h := ?_)
  refine rg (h := ?_)
  refine cl (hc := fun w hS => C_law11_Example w) (h := fun x0 _ => ?_)
  refine WL.y (hy := mv) (h := ?_)
  refine WL.y (hy := ex) (h := ?_)
  refine WL.y (hy := ex) (h := ?_)
  refine WL.y (hy := ex) (h := ?_)
  refine al (h := fun b1 => ?_)
  refine al (h := fun b2 => ?_)
  first | refine stA (h := ?_) | refine stEA (h := ?_)
  first | refine stA (h := ?_) | refine stEA (h := ?_)
  refine WL.y (hy := asg) (h := ?_)
  refine nl (h := ?_)
  refine q_seq (h := ?_)
  refine sq (h := ?_)
  refine rg (h := ?_)
  refine WL.y (hy := (by first | exact ldA | exact ldEA)) (h := ?_)
  refine WL.y (hy := mv) (h := ?_)
  refine cl0 (hc := fun w hS => C_gate_Total exX exL x0.pA x0.lA x0.pc x0.lc w ⟨hS.get (by repeat (first | exact Rds.own | apply Rds.there)), hS.get (by repeat (first | exact Rds.own | apply Rds.there)), by decide, by decide⟩) (h := ?_)
  rw [ex_total, ex_are]
  refine WL.y (hy := mv) (h := ?_)
  refine WL.y (hy := ex) (h := ?_)
  refine WL.y (hy := ex) (h := ?_)
  refine WL.y (hy := asg) (h := ?_)
  refine WL.y (hy := asg) (h := ?_)
  refine nl (h := ?_)
  refine q_seq (h := ?_)
  refine sq (h := ?_)
  refine rg (h := ?_)
  refine WL.y (hy := (by first | exact ldA | exact ldEA)) (h := ?_)
  refine cl0 (hc := fun w hS => C_gate_Sure exQ x0.a 4 (fun _ => by decide) w ⟨hS.get (by repeat (first | exact Rds.own | apply Rds.there)), hS.get (by repeat (first | exact Rds.own | apply Rds.there)), by decide, by decide⟩) (h := ?_)
  rw [ex_sure]
  refine WL.y (hy := mv) (h := ?_)
  refine WL.y (hy := ex) (h := ?_)
  refine WL.y (hy := ex) (h := ?_)
  refine al (h := fun b3 => ?_)
  first | refine stA (h := ?_) | refine stEA (h := ?_)
  refine WL.y (hy := asg) (h := ?_)
  refine nl (h := ?_)
  refine q_seq (h := ?_)
  refine sq (h := ?_)
  refine rg (h := ?_)
  refine WL.y (hy := mv) (h := ?_)
  refine WL.y (hy := eql) (h := ?_)
  refine WL.y (hy := mv) (h := ?_)
  apply brAnd 3 42 45 (by exact rfl)
  · intro hb0
    refine un (h := ?_)
    refine WL.y (hy := mv) (h := ?_)
    refine un (h := ?_)
    refine WL.y (hy := eql) (h := ?_)
    refine WL.y (hy := (by first | exact pkT | exact pkF)) (h := ?_)
    exact mg (by repeat (first | exact trivial | refine ⟨rfl, ?_⟩ | refine ⟨by rw [hb0]; rfl, ?_⟩)) (by repeat (first | exact SubL.nil | (apply SubL.cons; (repeat (first | exact At.here | apply At.there))) | exact SubL.refl _ | apply SubL.skip))
  · intro hb0
    repeat (first | refine un (h := ?_) | refine sk (h := ?_) | refine WL.y (hy := pkF) (h := ?_) | refine WL.y (hy := pkT) (h := ?_))
    exact mg (by repeat (first | exact trivial | refine ⟨rfl, ?_⟩ | refine ⟨by rw [hb0]; rfl, ?_⟩)) (by repeat (first | exact SubL.nil | (apply SubL.cons; (repeat (first | exact At.here | apply At.there))) | exact SubL.refl _ | apply SubL.skip))
  refine WL.y (hy := mv) (h := ?_)
  apply brAnd 3 46 49 (by exact rfl)
  · intro hb1
    refine un (h := ?_)
    refine WL.y (hy := mv) (h := ?_)
    refine un (h := ?_)
    refine WL.y (hy := eql) (h := ?_)
    refine WL.y (hy := (by first | exact pkT | exact pkF)) (h := ?_)
    exact mg (by repeat (first | exact trivial | refine ⟨rfl, ?_⟩ | refine ⟨by rw [hb1]; rfl, ?_⟩)) (by repeat (first | exact SubL.nil | (apply SubL.cons; (repeat (first | exact At.here | apply At.there))) | exact SubL.refl _ | apply SubL.skip))
  · intro hb1
    repeat (first | refine un (h := ?_) | refine sk (h := ?_) | refine WL.y (hy := pkF) (h := ?_) | refine WL.y (hy := pkT) (h := ?_))
    exact mg (by repeat (first | exact trivial | refine ⟨rfl, ?_⟩ | refine ⟨by rw [hb1]; rfl, ?_⟩)) (by repeat (first | exact SubL.nil | (apply SubL.cons; (repeat (first | exact At.here | apply At.there))) | exact SubL.refl _ | apply SubL.skip))
  refine WL.y (hy := mv) (h := ?_)
  apply brAnd 2 50 52 (by exact rfl)
  · intro hb2
    refine un (h := ?_)
    refine WL.y (hy := mv) (h := ?_)
    refine WL.y (hy := (by first | exact pkT | exact pkF)) (h := ?_)
    exact mg (by repeat (first | exact trivial | refine ⟨rfl, ?_⟩ | refine ⟨by rw [hb2]; rfl, ?_⟩)) (by repeat (first | exact SubL.nil | (apply SubL.cons; (repeat (first | exact At.here | apply At.there))) | exact SubL.refl _ | apply SubL.skip))
  · intro hb2
    repeat (first | refine un (h := ?_) | refine sk (h := ?_) | refine WL.y (hy := pkF) (h := ?_) | refine WL.y (hy := pkT) (h := ?_))
    exact mg (by repeat (first | exact trivial | refine ⟨rfl, ?_⟩ | refine ⟨by rw [hb2]; rfl, ?_⟩)) (by repeat (first | exact SubL.nil | (apply SubL.cons; (repeat (first | exact At.here | apply At.there))) | exact SubL.refl _ | apply SubL.skip))
  refine WL.y (hy := mv) (h := ?_)
  apply brAnd 3 53 56 (by exact rfl)
  · intro hb3
    refine un (h := ?_)
    refine WL.y (hy := mv) (h := ?_)
    refine un (h := ?_)
    refine WL.y (hy := eql) (h := ?_)
    refine WL.y (hy := (by first | exact pkT | exact pkF)) (h := ?_)
    exact mg (by repeat (first | exact trivial | refine ⟨rfl, ?_⟩ | refine ⟨by rw [hb3]; rfl, ?_⟩)) (by repeat (first | exact SubL.nil | (apply SubL.cons; (repeat (first | exact At.here | apply At.there))) | exact SubL.refl _ | apply SubL.skip))
  · intro hb3
    repeat (first | refine un (h := ?_) | refine sk (h := ?_) | refine WL.y (hy := pkF) (h := ?_) | refine WL.y (hy := pkT) (h := ?_))
    exact mg (by repeat (first | exact trivial | refine ⟨rfl, ?_⟩ | refine ⟨by rw [hb3]; rfl, ?_⟩)) (by repeat (first | exact SubL.nil | (apply SubL.cons; (repeat (first | exact At.here | apply At.there))) | exact SubL.refl _ | apply SubL.skip))
  refine WL.y (hy := mv) (h := ?_)
  apply brAnd 4 57 61 (by exact rfl)
  · intro hb4
    refine un (h := ?_)
    refine WL.y (hy := (by first | exact ldA | exact ldEA)) (h := ?_)
    refine un (h := ?_)
    refine WL.y (hy := bd) (h := ?_)
    refine un (h := ?_)
    refine WL.y (hy := eqlT) (h := ?_)
    refine WL.y (hy := (by first | exact pkT | exact pkF)) (h := ?_)
    exact mg (by repeat (first | exact trivial | refine ⟨rfl, ?_⟩ | refine ⟨by rw [hb4]; rfl, ?_⟩)) (by repeat (first | exact SubL.nil | (apply SubL.cons; (repeat (first | exact At.here | apply At.there))) | exact SubL.refl _ | apply SubL.skip))
  · intro hb4
    repeat (first | refine un (h := ?_) | refine sk (h := ?_) | refine WL.y (hy := pkF) (h := ?_) | refine WL.y (hy := pkT) (h := ?_))
    exact mg (by repeat (first | exact trivial | refine ⟨rfl, ?_⟩ | refine ⟨by rw [hb4]; rfl, ?_⟩)) (by repeat (first | exact SubL.nil | (apply SubL.cons; (repeat (first | exact At.here | apply At.there))) | exact SubL.refl _ | apply SubL.skip))
  refine WL.y (hy := asg) (h := ?_)
  refine nl (h := ?_)
  refine q_seq (h := ?_)
  refine rtn (h := ?_)
  refine q_ret (hR := ?_)
  exact fun w hS => ⟨by first | rfl | simp [resV], hS.sub .nil⟩
end Go.Proofs.Ytngelilffleimaa

namespace Go.Proofs.Ytngelilffleimaa
open Go Go.RowKit

theorem freeTo_sum (fs : List Fe) (m : Int) : ∀ k, k ≤ fs.length → freeTo fs m k = ((fs.take k).map fun f => bif decide (f.1 = m) then f.2 else 0).sum
  | 0, _ => rfl
  | k + 1, hk => by
    have hx : fs[k]? = some fs[k] := List.getElem?_eq_getElem (by omega)
    rw [freeTo, hx, freeTo_sum fs m k (by omega), List.take_add_one, hx, List.map_append, List.sum_append]
    simp
theorem freeAll_sum (fs : List Fe) (m : Int) : freeAll fs m = (fs.map fun f => bif decide (f.1 = m) then f.2 else 0).sum := by
  unfold freeAll
  rw [freeTo_sum fs m _ (Nat.le_refl _), List.take_length]
def cumL (fs : List Fe) (k : Int) : Int := (fs.map fun f => bif decide (f.1 < k) then f.2 else 0).sum
theorem cumL_succ (fs : List Fe) (k : Int) : cumL fs (k + 1) = cumL fs k + (fs.map fun f => bif decide (f.1 = k) then f.2 else 0).sum := by
  unfold cumL
  induction fs with
  | nil => rfl
  | cons f l ih =>
    simp only [List.map_cons, List.sum_cons]
    rw [ih]
    have : (bif decide (f.1 < k + 1) then f.2 else 0) = (bif decide (f.1 < k) then f.2 else 0) + (bif decide (f.1 = k) then f.2 else 0) := by
      by_cases h1 : f.1 < k
      · rw [decide_eq_true h1, decide_eq_true (show f.1 < k + 1 by omega), decide_eq_false (show ¬ f.1 = k by omega)]; simp
      · by_cases h2 : f.1 = k
        · rw [decide_eq_false h1, decide_eq_true (show f.1 < k + 1 by omega), decide_eq_true h2]; simp
        · rw [decide_eq_false h1, decide_eq_false (show ¬ f.1 < k + 1 by omega), decide_eq_false h2]; simp
    omega
theorem cumL_zero {fs : List Fe} (h : ∀ f ∈ fs, 0 ≤ f.1) : cumL fs 0 = 0 := by
  unfold cumL
  induction fs with
  | nil => rfl
  | cons f l ih =>
    simp only [List.map_cons, List.sum_cons]
    rw [ih fun g hg => h g (by simp [hg]), decide_eq_false (show ¬ f.1 < 0 by have := h f (by simp); omega)]; rfl
theorem cumE_eq {q : Qu} (h : ∀ f ∈ q.fs, 0 ≤ f.1) : ∀ k : Nat, cumE q k = q.seats + cumL q.fs (k : Int)
  | 0 => by rw [cumE]; show q.seats = q.seats + cumL q.fs 0; rw [cumL_zero h]; omega
  | k + 1 => by
    rw [cumE, cumE_eq h k, freeAll_sum, show ((k + 1 : Nat) : Int) = (k : Int) + 1 by omega, cumL_succ]; omega
abbrev Tr3 := Int × Int × Int
def fr1 (T : List Tr3) (n : Int) : List Fe := T.map fun e => (e.1, n)
def fr2 (T : List Tr3) (n : Int) : List Fe := T.map fun e => (e.2.1, n)
def fr3 (T : List Tr3) (n : Int) : List Fe := T.map fun e => (e.2.2, n)
def TrO (T : List Tr3) : Prop := ∀ e ∈ T, 0 ≤ e.1 ∧ e.1 ≤ e.2.1 ∧ e.2.1 ≤ e.2.2 ∧ e.2.2 ≤ 1440
theorem cum_le {T : List Tr3} {f g : Tr3 → Int} {n : Int} (hn : 0 ≤ n) (h : ∀ e ∈ T, f e ≤ g e) (k : Int) : cumL (T.map fun e => (g e, n)) k ≤ cumL (T.map fun e => (f e, n)) k := by
  unfold cumL
  induction T with
  | nil => exact Int.le_refl _
  | cons e l ih =>
    simp only [List.map_cons, List.sum_cons]
    have h1 := ih fun x hx => h x (by simp [hx])
    have h2 := h e (by simp)
    have : (bif decide (g e < k) then n else 0) ≤ (bif decide (f e < k) then n else 0) := by
      by_cases g1 : g e < k
      · rw [decide_eq_true g1, decide_eq_true (show f e < k by omega)]; exact Int.le_refl _
      · rw [decide_eq_false g1]
        cases decide (f e < k)
        · exact Int.le_refl _
        · exact hn
    omega
theorem cum12 {T : List Tr3} (h : TrO T) {n : Int} (hn : 0 ≤ n) (q : Qu) (k : Nat) : cumE (withF q (fr2 T n)) k ≤ cumE (withF q (fr1 T n)) k ∧ cumE (withF q (fr3 T n)) k ≤ cumE (withF q (fr2 T n)) k := by
  rw [cumE_eq (q := withF q (fr1 T n)) (fun f hf => by obtain ⟨e, he, rfl⟩ := List.mem_map.1 hf; exact (h e he).1), cumE_eq (q := withF q (fr2 T n)) (fun f hf => by obtain ⟨e, he, rfl⟩ := List.mem_map.1 hf; have := h e he; show 0 ≤ e.2.1; omega), cumE_eq (q := withF q (fr3 T n)) (fun f hf => by obtain ⟨e, he, rfl⟩ := List.mem_map.1 hf; have := h e he; show 0 ≤ e.2.2; omega)]
  have h1 := cum_le (T := T) (f := fun e => e.1) (g := fun e => e.2.1) hn (fun e he => (h e he).2.1) (k : Int)
  have h2 := cum_le (T := T) (f := fun e => e.2.1) (g := fun e => e.2.2) hn (fun e he => (h e he).2.2.1) (k : Int)
  exact ⟨Int.add_le_add_left h1 _, Int.add_le_add_left h2 _⟩
theorem withF_ok {q : Qu} (h : qOk q = true) {fs : List Fe} (hl : fs.length ≤ 40) (hf : ∀ f ∈ fs, (0 ≤ f.1 ∧ f.1 ≤ 1440) ∧ 0 ≤ f.2 ∧ f.2 ≤ 9999) : qOk (withF q fs) = true := by
  unfold qOk at h ⊢
  rw [Bool.and_eq_true, Bool.and_eq_true] at h ⊢
  refine ⟨⟨?_, h.1.2⟩, List.all_eq_true.2 fun f hf2 => ?_⟩
  · have h1 := h.1.1
    unfold headOk at h1 ⊢
    rw [Bool.and_eq_true] at h1 ⊢
    exact ⟨h1.1, decide_eq_true (by show ((fs.length : Nat) : Int) ≤ 40; omega)⟩
  · have := hf f hf2
    unfold feOk isT
    rw [Bool.and_eq_true, win_iff, win_iff]; exact this
def laterB (a b : Int) : Bool := decide (0 ≤ b) && (decide (a < 0) || decide (b < a))
theorem C_top_later (a b : Int) (w : World) : C0 Try.prog 16 [.int .i64 a, .int .i64 b] w (.bool (laterB a b)) := by
  refine ⟨en Try.func16 Try.ntmps16 (St.init w) (h := fun F => ?_)⟩
  refine sq (h := ?_)
  refine rg (h := ?_)
  refine WL.y (hy := asg) (h := ?_)
  refine nl (h := ?_)
  refine q_seq (h := ?_)
  refine sq (h := ?_)
  refine rg (h := ?_)
  refine WL.y (hy := mv) (h := ?_)
  refine WL.y (hy := geq) (h := ?_)
  refine WL.y (hy := mv) (h := ?_)
  apply brAnd 8 7 15 (by exact rfl)
  · intro hb0
    refine un (h := ?_)
    refine WL.y (hy := mv) (h := ?_)
    refine un (h := ?_)
    refine WL.y (hy := lss) (h := ?_)
    refine un (h := ?_)
    refine WL.y (hy := mv) (h := ?_)
    apply brOr 4 10 14 (by exact rfl)
    · intro hb1
      refine un (h := ?_)
      refine WL.y (hy := mv) (h := ?_)
      refine un (h := ?_)
      refine WL.y (hy := mv) (h := ?_)
      refine un (h := ?_)
      refine WL.y (hy := gtr) (h := ?_)
      refine un (h := ?_)
      refine WL.y (hy := (by first | exact pkT | exact pkF)) (h := ?_)
      exact mg (by repeat (first | exact trivial | refine ⟨rfl, ?_⟩ | refine ⟨by rw [hb1]; rfl, ?_⟩ | refine ⟨by rw [hb0]; rfl, ?_⟩)) (by repeat (first | exact SubL.nil | (apply SubL.cons; (repeat (first | exact At.here | apply At.there))) | exact SubL.refl _ | apply SubL.skip))
    · intro hb1
      repeat (first | refine un (h := ?_) | refine sk (h := ?_) | refine WL.y (hy := pkF) (h := ?_) | refine WL.y (hy := pkT) (h := ?_))
      exact mg (by repeat (first | exact trivial | refine ⟨rfl, ?_⟩ | refine ⟨by rw [hb1]; rfl, ?_⟩ | refine ⟨by rw [hb0]; rfl, ?_⟩)) (by repeat (first | exact SubL.nil | (apply SubL.cons; (repeat (first | exact At.here | apply At.there))) | exact SubL.refl _ | apply SubL.skip))
    refine WL.y (hy := (by first | exact pkT | exact pkF)) (h := ?_)
    exact mg (by repeat (first | exact trivial | refine ⟨rfl, ?_⟩ | refine ⟨by rw [hb0]; rfl, ?_⟩)) (by repeat (first | exact SubL.nil | (apply SubL.cons; (repeat (first | exact At.here | apply At.there))) | exact SubL.refl _ | apply SubL.skip))
  · intro hb0
    repeat (first | refine un (h := ?_) | refine sk (h := ?_) | refine WL.y (hy := pkF) (h := ?_) | refine WL.y (hy := pkT) (h := ?_))
    exact mg (by repeat (first | exact trivial | refine ⟨rfl, ?_⟩ | refine ⟨by rw [hb0]; rfl, ?_⟩)) (by repeat (first | exact SubL.nil | (apply SubL.cons; (repeat (first | exact At.here | apply At.there))) | exact SubL.refl _ | apply SubL.skip))
  refine WL.y (hy := asg) (h := ?_)
  refine nl (h := ?_)
  refine q_seq (h := ?_)
  refine rtn (h := ?_)
  refine q_ret (hR := ?_)
  exact fun w hS => ⟨rfl, hS.sub (by repeat (first | exact SubL.nil | (apply SubL.cons; (repeat (first | exact At.here | apply At.there))) | exact SubL.refl _ | apply SubL.skip))⟩
theorem later_no {q : Qu} {f1 f2 : List Fe} (h1 : (withF q f1).Ok) (h2 : (withF q f2).Ok) (hno : StayQ q.gs) {rate : Int} (hr : 0 ≤ rate) (hE : ∀ k, cumE (withF q f2) k ≤ cumE (withF q f1) k) {i : Nat} (hi : i < q.gs.length) : laterB (inAt (runV (withF q f1) rate 0) i) (inAt (runV (withF q f2) rate 0) i) = false := by
  have h := (two_run h1 h2 hno hr hE 1441).cmp (i : Int) ⟨by omega, by show (i : Int) < q.gs.length; omega⟩
  have e1 : inAt (runTo (withF q f1) rate 0 1441).inn (i : Int) = inAt (runV (withF q f1) rate 0) i := rfl
  have e2 : inAt (runTo (withF q f2) rate 0 1441).inn (i : Int) = inAt (runV (withF q f2) rate 0) i := rfl
  rw [e1, e2] at h
  unfold laterB
  by_cases g : 0 ≤ inAt (runV (withF q f2) rate 0) i
  · obtain ⟨g1, g2⟩ := h g
    rw [decide_eq_false (show ¬ inAt (runV (withF q f1) rate 0) i < 0 by omega), decide_eq_false (show ¬ inAt (runV (withF q f2) rate 0) i < inAt (runV (withF q f1) rate 0) i by omega)]; simp
  · rw [decide_eq_false g]; rfl
theorem C_ref11_Copy8 (q : Qu) (a : QA) (hn : q.gs.length ≤ 100 ∧ q.fs.length ≤ 100) (w : World) (h : QRd w q a) : CR Try.prog 14 [q.val a] w (fun _ : QA => True) (fun b => q.val b) (fun b => [.own b.gA b.gc 59 4 q.gs.length (encPt q.gs), .own b.fA b.fc 64 2 q.fs.length (encF q.fs)]) := by
  obtain ⟨hg, hf, hgn, hfn⟩ := h
  refine ⟨en Try.func14 Try.ntmps14 (((St.init w).share (e := .ro a.gA 4 q.gs.length (encPt q.gs)) hg rfl rfl rfl).share (e := .ro a.fA 2 q.fs.length (encF q.fs)) hf rfl rfl rfl) (h := fun F => ?_)⟩
  refine sq (h := ?_)
  refine rg (h := ?_)
  refine bxA (h := fun b0 => ?_)
  refine al (h := fun b1 => ?_)
  refine nl (h := ?_)
  refine q_seq (h := ?_)
  refine sq (h := ?_)
  refine rg (h := ?_)
  refine WL.y (hy := (by first | exact ldA | exact ldEA)) (h := ?_)
  refine al (h := fun b2 => ?_)
  first | refine stA (h := ?_) | refine stEA (h := ?_)
  refine nl (h := ?_)
  refine q_seq (h := ?_)
  refine sq (h := ?_)
  refine rg (h := ?_)
  refine bs (h := fun b3 => ?_)
  refine WL.y (hy := (by first | exact fa | exact faE)) (h := ?_)
  refine WL.y (hy := (by first | exact ld | exact ldE)) (h := ?_)
  first | refine ap (h := fun A1 c1 => ?_) | refine ap0 (h := fun A1 c1 => ?_)
  refine WL.y (hy := (by first | exact fa | exact faE)) (h := ?_)
  first | refine st (h := ?_) | refine stE (h := ?_)
  simp only [Nat.zero_add, List.nil_append]
  refine nl (h := ?_)
  refine q_seq (h := ?_)
  refine sq (h := ?_)
  refine rg (h := ?_)
  refine bs (h := fun b4 => ?_)
  refine WL.y (hy := (by first | exact fa | exact faE)) (h := ?_)
  refine WL.y (hy := (by first | exact ld | exact ldE)) (h := ?_)
  first | refine ap (h := fun A2 c2 => ?_) | refine ap0 (h := fun A2 c2 => ?_)
  refine WL.y (hy := (by first | exact fa | exact faE)) (h := ?_)
  first | refine st (h := ?_) | refine stE (h := ?_)
  simp only [Nat.zero_add, List.nil_append]
  refine nl (h := ?_)
  refine q_seq (h := ?_)
  refine sq (h := ?_)
  refine rg (h := ?_)
  refine WL.y (hy := (by first | exact ldA | exact ldEA)) (h := ?_)
  first | refine stA (h := ?_) | refine stEA (h := ?_)
  refine nl (h := ?_)
  refine q_seq (h := ?_)
  refine rtn (h := ?_)
  refine q_ret (hR := ?_)
  exact fun w hS => ⟨⟨A1, A2, c1, c2⟩, trivial, rfl, hS.sub (by repeat (first | exact SubL.nil | (apply SubL.cons; (repeat (first | exact At.here | apply At.there))) | exact SubL.refl _ | apply SubL.skip))⟩
theorem C_gate_EnterT (q : Qu) (fs : List Fe) (n : Nat) (hn : fs.length = n) (gA fA : Option Addr) (gc fc : Nat) (rate : Int) (hok : qOk (withF q fs) = true) (hg : q.gs.length ≤ 12) (hr : q.lo ≤ rate ∧ rate ≤ q.hi) (w : World) (h : Rd w gA 4 q.gs.length (encPt q.gs)) (h' : Rd w fA 2 n (encF fs)) :
    CR Try.prog 15 [.agg #[.int .i64 q.opn, .int .i64 q.lo, .int .i64 q.hi, .int .i64 q.seats, .slice gA q.gs.length gc, .slice fA n fc], .int .i64 rate] w (fun _ : Option Addr × Nat => True) (fun p => .tuple #[.slice p.1 q.gs.length p.2, .int .i64 0]) (fun p => [.own p.1 p.2 3 1 q.gs.length (enI (runV (withF q fs) rate 0))]) := by
  subst hn
  have hq := q_ok hok
  have hf40 := hq.f
  have hE : enterE (withF q fs) rate = 0 := enter_ok hok (win_iff.2 hr)
  have hL : enterL (withF q fs) rate = runV (withF q fs) rate 0 := by rw [enterL, hE]; rfl
  have hl : (enterL (withF q fs) rate).length = q.gs.length := by rw [hL]; exact runV_len hq (by omega)
  refine ⟨Calls.mono (C_gate_Enter (withF q fs) ⟨gA, fA, gc, fc⟩ rate (fun _ => hg) w ⟨h, h', by show q.gs.length ≤ _; omega, by show fs.length ≤ _; have : fs.length ≤ 40 := hf40; omega⟩).out fun e w' ⟨r, hr, he, hs⟩ => ?_⟩
  rw [hL] at hs
  rw [hl, hE] at he
  have hl2 : (runV (withF q fs) rate 0).length = q.gs.length := by rw [← hL]; exact hl
  rw [hl2] at hs
  exact ⟨r, trivial, he, hs⟩
structure En8 where
  (o : List Se) (oA : Option Addr) (oc : Nat) (tk : List Int) (tA : Option Addr) (tc : Nat) (day seats rate : Int)
abbrev En8.cells (x : En8) : List Value := [.slice x.oA x.o.length x.oc, .slice x.tA x.tk.length x.tc, .int .i64 x.day, .int .i64 x.seats, .int .i64 x.rate]
abbrev En8.val (x : En8) : Value := .agg #[.slice x.oA x.o.length x.oc, .slice x.tA x.tk.length x.tc, .int .i64 x.day, .int .i64 x.seats, .int .i64 x.rate]
structure En8R (w : World) (x : En8) : Prop where
  o : Rd w x.oA 3 x.o.length (encSe x.o)
  t : Rd w x.tA 1 x.tk.length (enI x.tk)
  oc : x.o.length ≤ x.oc
  on : x.oc ≤ 9223372036854775807
  tn : x.tk.length ≤ 9223372036854775807
abbrev endsSp : List Sp := [.sl seatSp, .sl i1, .int .i64, .int .i64, .int .i64]
theorem ends_open {w : World} {cs : List Value} (h : Mts w endsSp cs) : ∃ x : En8, Value.agg cs.toArray = x.val ∧ En8R w x := by
  obtain ⟨A, n, c, xs, cs, rfl, hr, hn, hx, h⟩ := Mts.sl_invc h
  obtain ⟨B, m, d, ys, cs, rfl, hr2, hm, hy, h⟩ := h.sl_inv
  obtain ⟨a1, cs, rfl, _, h⟩ := h.int_inv
  obtain ⟨a2, cs, rfl, _, h⟩ := h.int_inv
  obtain ⟨a3, cs, rfl, _, h⟩ := h.int_inv
  rw [h.nil_inv]
  obtain ⟨xs, rfl⟩ := map_of (f := Se.cells) (xs := xs) fun x hxm => by
    obtain ⟨a, cs, rfl, _, h⟩ := Mts.int_inv (hx x hxm)
    obtain ⟨b, cs, rfl, _, h⟩ := h.int_inv
    obtain ⟨c, cs, rfl, _, h⟩ := h.int_inv
    rw [h.nil_inv]
    exact ⟨⟨a, b, c⟩, rfl⟩
  obtain ⟨ys, rfl⟩ := ints_map hy
  have hl : xs.length = n := by have := hr.len; simpa using this
  have hl2 : ys.length = m := by have := hr2.len; simpa [enI] using this
  subst hl hl2
  exact ⟨⟨xs, A, c, ys, B, d, a1, a2, a3⟩, rfl, hr, hr2, hn.1, hn.2, hm⟩
end Go.Proofs.Ytngelilffleimaa

namespace Go.Proofs.Ytngelilffleimaa
open Go Go.RowKit

theorem C_ref11_within (n lo hi : Int) (w : World) : C0 Try.prog 30 [.int .i64 n, .int .i64 lo, .int .i64 hi] w (.bool (win n lo hi)) := by
  refine ⟨en Try.func30 Try.ntmps30 (St.init w) (h := fun F => ?_)⟩
  refine sq (h := ?_)
  refine rg (h := ?_)
  refine WL.y (hy := asg) (h := ?_)
  refine nl (h := ?_)
  refine q_seq (h := ?_)
  refine sq (h := ?_)
  refine rg (h := ?_)
  refine WL.y (hy := mv) (h := ?_)
  refine WL.y (hy := mv) (h := ?_)
  refine WL.y (hy := geq) (h := ?_)
  refine WL.y (hy := mv) (h := ?_)
  apply brAnd 4 10 14 (by exact rfl)
  · intro hb0
    refine un (h := ?_)
    refine WL.y (hy := mv) (h := ?_)
    refine un (h := ?_)
    refine WL.y (hy := mv) (h := ?_)
    refine un (h := ?_)
    refine WL.y (hy := leq) (h := ?_)
    refine WL.y (hy := (by first | exact pkT | exact pkF)) (h := ?_)
    exact mg (by repeat (first | exact trivial | refine ⟨rfl, ?_⟩ | refine ⟨by rw [hb0]; rfl, ?_⟩)) (by repeat (first | exact SubL.nil | (apply SubL.cons; (repeat (first | exact At.here | apply At.there))) | exact SubL.refl _ | apply SubL.skip))
  · intro hb0
    repeat (first | refine un (h := ?_) | refine sk (h := ?_) | refine WL.y (hy := pkF) (h := ?_) | refine WL.y (hy := pkT) (h := ?_))
    exact mg (by repeat (first | exact trivial | refine ⟨rfl, ?_⟩ | refine ⟨by rw [hb0]; rfl, ?_⟩)) (by repeat (first | exact SubL.nil | (apply SubL.cons; (repeat (first | exact At.here | apply At.there))) | exact SubL.refl _ | apply SubL.skip))
  refine WL.y (hy := asg) (h := ?_)
  refine nl (h := ?_)
  refine q_seq (h := ?_)
  refine rtn (h := ?_)
  refine q_ret (hR := ?_)
  exact fun w hS => ⟨rfl, hS.sub (by repeat (first | exact SubL.nil | (apply SubL.cons; (repeat (first | exact At.here | apply At.there))) | exact SubL.refl _ | apply SubL.skip))⟩
structure JK where
  (j : Nat)
end Go.Proofs.Ytngelilffleimaa
