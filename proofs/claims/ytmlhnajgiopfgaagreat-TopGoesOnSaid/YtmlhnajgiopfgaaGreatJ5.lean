/- The texts of the walk, part 5. -/
import Derived.Test.YtmlhnajgiopfgaaGreatJ4
namespace Go.Proofs.YtmlhnajgiopfgaaGreat
open Go Go.RowKit

structure InR (all : List Sl) (k : Nat) (c : CSt) (rem : List Sl) : Prop where
  sub : ∀ s ∈ rem, s ∈ all ∧ s.kind = 5
  nd : rem.Nodup
  gone : ∀ s ∈ all, s.kind = 5 → ¬ s ∈ rem → s.place < k ∨ (s.place = k ∧ s.old ∈ c.ever ∧ s.old ≠ c.now)
  now : c.now ∈ c.ever
  len : (rem.length : Int) + c.used = luckyN all
structure OuR (all : List Sl) (k : Nat) (used : Int) (rem : List Sl) : Prop where
  sub : ∀ s ∈ rem, s ∈ all ∧ s.kind = 5
  nd : rem.Nodup
  gone : ∀ s ∈ all, s.kind = 5 → ¬ s ∈ rem → s.place < k
  len : (rem.length : Int) + used = luckyN all
theorem OuR.start (all : List Sl) (h : all.Nodup) : OuR all 0 0 (all.filter fun s => decide (s.kind = 5)) := by
  refine ⟨fun s hs => ?_, h.filter _, fun s hs hk hn => absurd (List.mem_filter.2 ⟨hs, decide_eq_true hk⟩) hn, by rw [Int.add_zero]; rfl⟩
  obtain ⟨h1, h2⟩ := List.mem_filter.1 hs
  exact ⟨h1, of_decide_eq_true h2⟩
theorem OuR.inn {all : List Sl} {k : Nat} {used : Int} {rem : List Sl} (h : OuR all k used rem) {now : Int} {ever : List Int} (hn : now ∈ ever) : InR all k ⟨now, ever, used⟩ rem :=
  ⟨h.sub, h.nd, fun s h1 h2 h3 => .inl (h.gone s h1 h2 h3), hn, h.len⟩
theorem InR.out {all : List Sl} {k : Nat} {c : CSt} {rem : List Sl} (h : InR all k c rem) : OuR all (k + 1) c.used rem :=
  ⟨h.sub, h.nd, fun s h1 h2 h3 => by
    rcases h.gone s h1 h2 h3 with h4 | h4
    · push_cast; omega
    · have := h4.1
      push_cast; omega, h.len⟩
theorem InR.miss {all : List Sl} {k : Nat} {c : CSt} {rem : List Sl} (h : InR all k c rem) (hn : NextO rem k c.now none) : cand all k c.now = [] := by
  cases e : cand all k c.now with
  | nil => rfl
  | cons x r =>
    exfalso
    obtain ⟨s, hs, h1, h2, h3, -⟩ := cand_mem (all := all) (i := k) (now := c.now) (x := x) (by rw [e]; simp)
    have h4 : ¬ s ∈ rem := fun h5 => hn s h5 ⟨h2, h3⟩
    rcases h.gone s hs h1 h4 with h5 | ⟨-, -, h5⟩
    · omega
    · exact h5 h3
theorem cand_in {all : List Sl} {i now : Int} {s : Sl} (h : s ∈ all) (hk : s.kind = 5) (hp : s.place = i) (ho : s.old = now) : s.player ∈ cand all i now := by
  unfold cand
  refine List.mem_map.2 ⟨s, List.mem_filter.2 ⟨h, ?_⟩, rfl⟩
  unfold candB
  rw [decide_eq_true hk, decide_eq_true hp, decide_eq_true ho]; rfl
theorem InR.hit {all : List Sl} {k : Nat} {c cf : CSt} {rem : List Sl} {s : Sl} (h : InR all k c rem) (hn : NextO rem k c.now (some s)) (hc : chain all k c = some cf) : ¬ s.player ∈ c.ever ∧ chain all k (c.nxt s.player) = some cf := by
  obtain ⟨h1, h2, h3⟩ := hn
  have hm := cand_in (h.sub s h1).1 (h.sub s h1).2 h2 h3
  cases e : cand all k c.now with
  | nil => rw [e] at hm; cases hm
  | cons x r =>
    cases r with
    | nil =>
      rw [e, List.mem_singleton] at hm
      subst hm
      have hx : ¬ s.player ∈ c.ever := fun h4 => by rw [chain_old e h4] at hc; cases hc
      exact ⟨hx, by rw [← chain_new e hx]; exact hc⟩
    | cons y r => rw [chain_many (by rw [e]; simp)] at hc; cases hc
theorem perm_erase {α : Type} : ∀ {l : List α} {j : Nat} {x : α}, l[j]? = some x → (x :: l.eraseIdx j).Perm l
  | [], _, _, h => by cases h
  | _ :: _, 0, _, h => by cases h; exact .refl _
  | y :: l, j + 1, x, h => by
    rw [List.eraseIdx_cons_succ]
    exact (List.Perm.swap y x _).trans ((perm_erase (l := l) (j := j) h).cons y)
theorem InR.step {all : List Sl} {k : Nat} {c : CSt} {rem : List Sl} {s : Sl} {j : Nat} (h : InR all k c rem) (hn : NextO rem k c.now (some s)) (hx : ¬ s.player ∈ c.ever) (hj : rem[j]? = some s) : InR all k (c.nxt s.player) (rem.eraseIdx j) := by
  obtain ⟨hl, he⟩ := List.getElem?_eq_some_iff.1 hj
  have hp := perm_erase hj
  have hnd : (s :: rem.eraseIdx j).Nodup := hp.nodup_iff.2 h.nd
  rw [List.nodup_cons] at hnd
  obtain ⟨h1, h2, h3⟩ := hn
  refine ⟨fun z hz => h.sub z (hp.mem_iff.1 (List.mem_cons_of_mem _ hz)), hnd.2, fun z hz hk hr => ?_, List.mem_append_right _ (by simp), ?_⟩
  · by_cases e : z = s
    · subst e
      exact .inr ⟨h2, List.mem_append_left _ (h3 ▸ h.now), fun (e2 : z.old = z.player) => hx (by rw [← e2, h3]; exact h.now)⟩
    · have hr' : ¬ z ∈ rem := fun h4 => by
        rcases List.mem_cons.1 (hp.mem_iff.2 h4) with h5 | h5
        · exact e h5
        · exact hr h5
      rcases h.gone z hz hk hr' with h4 | ⟨h4, h5, h6⟩
      · exact .inl h4
      · exact .inr ⟨h4, List.mem_append_left _ h5, fun (e2 : z.old = s.player) => hx (by rw [← e2]; exact h5)⟩
  · have hlen := hp.length_eq
    rw [List.length_cons] at hlen
    have := h.len
    show ((rem.eraseIdx j).length : Int) + (c.used + 1) = _
    omega
theorem LkS.del {rem : List Sl} {x : WnX} (h : LkS rem x) {s : Sl} {j : Nat} {v : Value} (hj : x.kv[j]? = some (slK s, v)) {es' : Array MapEntry} {c' : Nat} (hm : MapIs es' (x.kv.eraseIdx j)) (ht : Stm es' c') : rem[j]? = some s ∧ LkS (rem.eraseIdx j) ⟨es', c', x.kv.eraseIdx j⟩ := by
  refine ⟨?_, hm, fun p hp => h.s p (List.mem_of_mem_eraseIdx hp), ht, ?_⟩
  · have h1 := congrArg (·[j]?) h.k
    simp only [List.getElem?_map, hj, Option.map_some] at h1
    cases e : rem[j]? with
    | none => rw [e] at h1; cases h1
    | some z => rw [e] at h1; rw [slK_inj (Option.some.inj h1)]
  · show (x.kv.eraseIdx j).map Prod.fst = (rem.eraseIdx j).map slK
    rw [map_erase, h.k, map_erase]
theorem LkS.isin {rem : List Sl} {x : WnX} (h : LkS rem x) {s : Sl} (hs : s ∈ rem) : (lkp x.kv (slK s)).isSome = true := by
  rw [lkp_key, h.k]; exact List.mem_map.2 ⟨s, hs, rfl⟩
theorem LkS.len {rem : List Sl} {x : WnX} (h : LkS rem x) : x.es.size = rem.length := by
  rw [mapIs_len h.m]
  have := congrArg List.length h.k
  simpa using this
def curL (out sl : List Int) (k : Nat) (v : Int) : List Int := out ++ v :: sl.drop (k + 1)
theorem curL_start {out sl : List Int} {k : Nat} (h : k < sl.length) : out ++ sl.drop k = curL out sl k (sl.getD k 0) := by
  unfold curL
  rw [List.drop_eq_getElem_cons h, getD_lt h]
theorem curL_set {out sl : List Int} {k : Nat} (h : out.length = k) (v u : Int) : (curL out sl k v).set k u = curL out sl k u := by
  unfold curL
  subst h
  rw [List.set_append_right _ _ (Nat.le_refl _), Nat.sub_self]; rfl
theorem curL_end {out sl : List Int} {k : Nat} (v : Int) : curL out sl k v = (out ++ [v]) ++ sl.drop (k + 1) := by unfold curL; rw [List.append_assoc]; rfl
theorem curL_len {out sl : List Int} {k : Nat} (h : out.length = k) (hk : k < sl.length) (v : Int) : (curL out sl k v).length = sl.length := by
  unfold curL
  rw [List.length_append, List.length_cons, List.length_drop]; omega
theorem curL_get {out sl : List Int} {k : Nat} (h : out.length = k) (v : Int) : (curL out sl k v).getD k 0 = v := by
  unfold curL
  subst h
  rw [List.getD_eq_getElem?_getD, List.getElem?_append_right (Nat.le_refl _), Nat.sub_self]; rfl
theorem plG_some {all : List Sl} {sl : List Int} {m : Nat} {q : PSt} (h : plG all sl m = some q) {k : Nat} (hk : k ≤ m) : ∃ q', plG all sl k = some q' := by
  cases e : plG all sl k with
  | some q' => exact ⟨q', rfl⟩
  | none => rw [plG_none e m hk] at h; cases h
theorem plG_chain {all : List Sl} {sl : List Int} {k : Nat} {q q' : PSt} (h : plG all sl k = some q) (h' : plG all sl (k + 1) = some q') : ∃ cf, chain all k ⟨sl.getD k 0, q.ever, q.used⟩ = some cf ∧ q' = ⟨q.out ++ [cf.now], cf.ever, cf.used⟩ := by
  rw [plG, h] at h'
  dsimp only at h'
  cases e : chain all k ⟨sl.getD k 0, q.ever, q.used⟩ with
  | none => rw [e] at h'; cases h'
  | some cf => rw [e] at h'; exact ⟨cf, rfl, (Option.some.inj h').symm⟩
structure RpZ where
  (k : Nat) (q : PSt) (rem : List Sl) (x : WnX) (eA : Option Addr) (ec : Nat)
structure RqZ where
  (c : CSt) (rem : List Sl) (x : WnX) (eA : Option Addr) (ec b : Nat) (o : Option Sl)
theorem NextO.ne {rem : List Sl} {i now : Int} {o : Option Sl} (h : NextO rem i now o) (hs : o.isSome = true) : ∃ s, o = some s ∧ s ∈ rem := by
  cases o with
  | none => cases hs
  | some s => exact ⟨s, rfl, h.1⟩
set_option maxRecDepth 100000 in
set_option maxHeartbeats 1000000 in
theorem T_br_replace (t : Tre) (all : List Sl) (hall : all.Nodup) (qe : PSt) (hq : plG all t.sl t.sl.length = some qe) (hu : qe.used = luckyN all) (hal : all.length ≤ 100) (q : DwX) (lb : Nat) (x : WnX) (hx : LkS (all.filter fun s => decide (s.kind = 5)) x) (hn : t.sl.length ≤ 1000) :
    Tr Tryz.prog 81 [.pointer (some ⟨q.b, 0, none⟩), .map (some lb)] [.obj lb (.map x.es x.c), .blk q.b 97 (dwC t t.sl.length q), .own q.pA q.pc 3 1 t.sl.length (enI t.sl), .ro t.A 1 t.sl.length (enI t.sl)] (fun _ : Unit => True) (fun _ => .bool true) (fun _ => [.blk q.b 97 (dwC t qe.out.length q), .own q.pA q.pc 3 1 qe.out.length (enI qe.out), .ro t.A 1 t.sl.length (enI t.sl)]) := by
  refine ⟨fun w0 w R hst => ?_⟩
  have hol := (plG_ok _ _ _ qe (Nat.le_refl _) hq).n
  refine en Tryz.func81 Tryz.ntmps81 hst (h := fun F => ?_)
  refine sq (h := ?_)
  refine rg (h := ?_)
  refine wy asg ?_
  refine nl (h := ?_)
  refine q_seq (h := ?_)
  refine sq (h := ?_)
  refine rg (h := ?_)
  refine wy mv ?_
  refine wy nck ?_
  refine wy (by first | exact fa | exact faE) ?_
  refine wy (by first | exact fa | exact faE) ?_
  refine wy (by first | exact ld | exact ldE) ?_
  refine cl (hc := fun w hS => C_CloneInts t.A t.sl.length t.c (enI t.sl) w (hS.get rdz_) (by omega)) (h := fun ce _ => ?_)
  refine wy asg ?_
  refine WL.cut (by repeat (first | exact Cut.nil | apply Cut.hit | apply Cut.miss (by exact rfl))) ?_
  refine nl (h := ?_)
  refine q_seq (h := ?_)
  refine sq (h := ?_)
  refine sq (h := ?_)
  refine rg (h := ?_)
  refine wy mv ?_
  refine wy nck ?_
  refine wy (by first | exact fa | exact faE) ?_
  refine wy (by first | exact ld | exact ldE) ?_
  refine wy lenS ?_
  refine wy mv ?_
  refine nl (h := ?_)
  refine q_seq (h := ?_)
  refine bk (h := ?_)
  refine lp (X := RpZ) (I := fun z => z.k ≤ t.sl.length ∧ plG all t.sl z.k = some z.q ∧ OuR all z.k z.q.used z.rem ∧ LkS z.rem z.x ∧ (z.q.ever.length : Int) ≤ 1000 + z.q.used) (le := fun z => [(0, .pointer (some ⟨q.b, 0, none⟩)), (1, .map (some lb)), (5, .slice z.eA z.q.ever.length z.ec), (19, .int .i64 t.sl.length), (20, .int .i64 z.k)]) (Le := fun z => .own z.eA z.ec 3 1 z.q.ever.length (enI z.q.ever) :: .obj lb (.map z.x.es z.x.c) :: .blk q.b 97 (dwC t t.sl.length q) :: .own q.pA q.pc 3 1 t.sl.length (enI (z.q.out ++ t.sl.drop z.k)) :: .ro t.A 1 t.sl.length (enI t.sl) :: R) (μ := fun z => t.sl.length - z.k) ⟨0, ⟨[], t.sl, 0⟩, _, x, ce.1, ce.2⟩ ⟨Nat.zero_le _, rfl, OuR.start all hall, hx, by dsimp only; omega⟩ sbz_ slz_ (fun z hz => ?_)
  obtain ⟨hzk, hzq, hzo, hzx, hze⟩ := hz
  refine sq (h := ?_)
  refine rg (h := ?_)
  refine wy lss ?_
  refine nl (h := ?_)
  refine q_seq (h := ?_)
  refine sq (h := ?_)
  refine cd (by exact rfl) (fun h0 => ?_) (fun h0 => ?_)
  · skip
    have hkn : z.k < t.sl.length := by have := of_decide_eq_true h0; omega
    obtain ⟨q2, hq2⟩ := plG_some hq (k := z.k + 1) hkn
    obtain ⟨cf, hcf, hq2e⟩ := plG_chain hzq hq2
    have hpi := plG_ok _ _ z.k z.q (by omega) hzq
    have hin0 : InR all z.k ⟨t.sl.getD z.k 0, z.q.ever, z.q.used⟩ z.rem := hzo.inn (hpi.sub _ (getD_mem hkn))
    rw [curL_start (out := z.q.out) hkn]
    refine skp (h := ?_)
    refine q_seq (h := ?_)
    refine sq (h := ?_)
    refine bk (h := ?_)
    refine sq (h := ?_)
    refine rg (h := ?_)
    refine wy mv ?_
    refine wy asg ?_
    refine WL.cut (by repeat (first | exact Cut.nil | apply Cut.hit | apply Cut.miss (by exact rfl))) ?_
    refine nl (h := ?_)
    refine q_seq (h := ?_)
    refine sq (h := ?_)
    refine rg (h := ?_)
    refine wy mv ?_
    refine wy mv ?_
    refine wy mv ?_
    refine clT (hc := T_br_next t (curL z.q.out t.sl z.k (t.sl.getD z.k 0)) q z.rem lb z.x hzx z.k t.sl.length (curL_len hpi.n hkn _) hkn (by omega)) (h := fun o1 ho1 => ?_)
    rw [curL_get hpi.n] at ho1
    refine wy mv ?_
    refine wy ex ?_
    refine wy ex ?_
    refine al (h := fun b0 => ?_)
    first | refine stA (h := ?_) | refine stEA (h := ?_)
    refine wy asg ?_
    refine WL.cut (by repeat (first | exact Cut.nil | apply Cut.hit | apply Cut.miss (by exact rfl))) ?_
    refine nl (h := ?_)
    refine q_seq (h := ?_)
    refine bk (h := ?_)
    refine lp (X := RqZ) (I := fun v => InR all z.k v.c v.rem ∧ LkS v.rem v.x ∧ chain all z.k v.c = some cf ∧ NextO v.rem z.k v.c.now v.o ∧ (v.c.ever.length : Int) ≤ 1000 + v.c.used) (le := fun v => [(0, .pointer (some ⟨q.b, 0, none⟩)), (1, .map (some lb)), (5, .slice v.eA v.c.ever.length v.ec), (6, .int .i64 z.k), (7, .pointer (some ⟨v.b, 0, none⟩)), (8, .bool v.o.isSome), (19, .int .i64 t.sl.length), (20, .int .i64 z.k)]) (Le := fun v => .blk v.b 54 (v.o.getD slZ).cells :: .own v.eA v.ec 3 1 v.c.ever.length (enI v.c.ever) :: .obj lb (.map v.x.es v.x.c) :: .blk q.b 97 (dwC t t.sl.length q) :: .own q.pA q.pc 3 1 t.sl.length (enI (curL z.q.out t.sl z.k v.c.now)) :: .ro t.A 1 t.sl.length (enI t.sl) :: R) (μ := fun v => v.rem.length) ⟨⟨t.sl.getD z.k 0, z.q.ever, z.q.used⟩, z.rem, z.x, z.eA, z.ec, b0, o1⟩ ⟨hin0, hzx, hcf, ho1, hze⟩ sbz_ slz_ (fun v hv => ?_)
    obtain ⟨hvi, hvx, hvc, hvn, hve⟩ := hv
    refine sq (h := ?_)
    refine sq (h := ?_)
    refine rg (h := ?_)
    refine wy mv ?_
    refine nl (h := ?_)
    refine q_seq (h := ?_)
    refine cd (by exact rfl) (fun h1 => ?_) (fun h1 => ?_)
    · skip
      obtain ⟨s, hos, hsr⟩ := hvn.ne h1
      rw [hos] at hvn
      have hsm := hvi.hit hvn hvc
      have hce : (enI (curL z.q.out t.sl z.k v.c.now))[z.k]? = some [.int .i64 v.c.now] := by
        have h9 := enI_at (at_getD (l := curL z.q.out t.sl z.k v.c.now) (i := z.k) (by rw [curL_len hpi.n hkn]; exact hkn))
        rwa [curL_get hpi.n] at h9
      have hvl := hvi.len
      have hal2 := lucky_rng all
      rw [hos, Option.getD_some]
      refine skp (h := ?_)
      refine q_seq (h := ?_)
      refine sq (h := ?_)
      refine bk (h := ?_)
      refine sq (h := ?_)
      refine sq (h := ?_)
      refine rg (h := ?_)
      refine wy mv ?_
      refine wy (by first | exact fa | exact faE) ?_
      refine wy (by first | exact ld | exact ldE) ?_
      refine cl0 (hc := fun w hS => C_slices_Contains v.c.ever s.player v.eA v.c.ever.length v.ec w (hS.get rdz_) (by omega)) (h := ?_)
      rw [any_no fun y hy (e : y = s.player) => hsm.1 (e ▸ hy)]
      refine nl (h := ?_)
      refine q_seq (h := ?_)
      refine cdF (h := ?_)
      refine skp (h := ?_)
      refine q_seq (h := ?_)
      refine sq (h := ?_)
      refine rgD (by kernel_rfl) [(8, .own q.pA q.pc 3 1 t.sl.length (enI (curL z.q.out t.sl z.k v.c.now))), (1000000, .blk q.b 97 (dwC t t.sl.length q)), (1000000, .blk v.b 54 s.cells)] (by repeat (first | exact HS.nil | (apply HS.keep; (repeat (first | exact At.here | apply At.there))) | (apply HS.ro; (repeat (first | exact Rds.ro | exact Rds.own | apply Rds.there))))) (h := ?_)
      refine tk 0 (hy := mv) (h := ?_)
      refine tk 1 (hy := nck) (h := ?_)
      refine tk 2 (hy := (by first | exact fa | exact faE)) (h := ?_)
      refine tk 3 (hy := (by first | exact ld | exact ldE)) (h := ?_)
      refine tk 4 (hy := mv) (h := ?_)
      refine tk 5 (hy := (by first | exact fa | exact faE)) (h := ?_)
      refine tk 6 (hy := (by first | exact ld | exact ldE)) (h := ?_)
      refine tk 7 (hy := ix (A := q.pA) (m := t.sl.length) (hb := by omega)) (h := ?_)
      refine one 8 (h := ?_)
      refine stE (A := q.pA) (k := z.k) (j := 0) (hk := hce) (h := ?_)
      rw [enI_put8, curL_set hpi.n]
      refine nx (h := ?_)
      refine dn (h := ?_)
      refine q_seq (h := ?_)
      refine sq (h := ?_)
      refine rg (h := ?_)
      refine wy mv ?_
      refine wy (by first | exact fa | exact faE) ?_
      refine wy (by first | exact ld | exact ldE) ?_
      refine bs (h := fun b1 => ?_)
      refine ap (es := enI v.c.ever) (m := v.c.ever.length) (k := 1) (A := v.eA) (c := v.ec) (h := fun A1 c1 => ?_)
      rw [show enI v.c.ever ++ [[Value.int .i64 s.player]] = enI (v.c.ever ++ [s.player]) from enI_app _ _, show v.c.ever.length + 1 = (v.c.ever ++ [s.player]).length by simp]
      refine wy asg ?_
      refine WL.cut (by repeat (first | exact Cut.nil | apply Cut.hit | apply Cut.miss (by exact rfl))) ?_
      refine nl (h := ?_)
      refine q_seq (h := ?_)
      refine rg (h := ?_)
      refine wy mv ?_
      refine wy (by first | exact ldA | exact ldEA) ?_
      refine dlX (b := lb) (es := v.x.es) (c := v.x.c) (k := slK s) (hm := hvx.m) (hs := hvx.s) (hst0 := hvx.t) (hin := hvx.isin hsr) (h := fun es2 j2 v2 hj2 hm2 ht2 => ?_)
      obtain ⟨hj3, hx3⟩ := hvx.del hj2 hm2 ht2
      refine nl (h := ?_)
      refine q_blk_norm (h := ?_)
      refine q_seq (h := ?_)
      refine sq (h := ?_)
      refine sq (h := ?_)
      refine rg (h := ?_)
      refine wy (by first | exact ldA | exact ldEA) ?_
      refine nl (h := ?_)
      refine q_seq (h := ?_)
      refine rg (h := ?_)
      refine al (h := fun b2 => ?_)
      first | refine stA (h := ?_) | refine stEA (h := ?_)
      refine nl (h := ?_)
      refine q_seq (h := ?_)
      refine rg (h := ?_)
      refine wy mv ?_
      refine wy mv ?_
      refine wy mv ?_
      refine clT (hc := T_br_next t (curL z.q.out t.sl z.k s.player) q (v.rem.eraseIdx j2) lb ⟨es2, v.x.c, v.x.kv.eraseIdx j2⟩ hx3 z.k t.sl.length (curL_len hpi.n hkn _) hkn (by omega)) (h := fun o2 ho2 => ?_)
      rw [curL_get hpi.n] at ho2
      refine wy mv ?_
      refine wy ex ?_
      refine wy ex ?_
      first | refine stA (h := ?_) | refine stEA (h := ?_)
      refine wy asg ?_
      refine WL.cut (by repeat (first | exact Cut.nil | apply Cut.hit | apply Cut.miss (by exact rfl))) ?_
      refine nl (h := ?_)
      refine rn (x := v) ⟨v.c.nxt s.player, v.rem.eraseIdx j2, ⟨es2, v.x.c, v.x.kv.eraseIdx j2⟩, A1, c1, b2, o2⟩ ⟨hvi.step hvn hsm.1 hj3, hx3, hsm.2, ho2, by dsimp only; rw [List.length_append, List.length_singleton]; omega⟩ (by have h9 := (List.getElem?_eq_some_iff.1 hj3).1; dsimp only; rw [List.length_eraseIdx_of_lt h9]; omega) sbz_ slz_
    · skip
      have hvo : v.o = none := by simpa using h1
      rw [hvo] at hvn
      have hcn := hvi.miss hvn
      have hcf2 : v.c = cf := Option.some.inj ((chain_nil hcn).symm.trans hvc)
      rw [curL_end]
      refine et (h := ?_)
      refine q_then_exit (h := ?_)
      refine q_then_exit (h := ?_)
      refine q_blk_hit (h := ?_)
      refine q_blk_norm (h := ?_)
      refine q_seq (h := ?_)
      refine rg (h := ?_)
      refine wy addI ?_
      refine wy mv ?_
      refine nl (h := ?_)
      refine rn (x := z) ⟨z.k + 1, ⟨z.q.out ++ [v.c.now], v.c.ever, v.c.used⟩, v.rem, v.x, v.eA, v.ec⟩ ⟨hkn, by rw [hcf2]; exact plG_next hzq hcf, hvi.out, hvx, hve⟩ (by dsimp only; omega) sbz_ slz_
  · skip
    have hkn : z.k = t.sl.length := by have := of_decide_eq_false h0; omega
    rw [hkn] at hzq
    obtain rfl : z.q = qe := Option.some.inj (hzq.symm.trans hq)
    have hrl : z.rem.length = 0 := by have := hzo.len; omega
    rw [hkn, List.drop_of_length_le (Nat.le_refl _), List.append_nil]
    refine et (h := ?_)
    refine q_then_exit (h := ?_)
    refine q_then_exit (h := ?_)
    refine q_blk_hit (h := ?_)
    refine q_seq (h := ?_)
    refine sq (h := ?_)
    refine rg (h := ?_)
    refine wy mv ?_
    refine wy lenMp ?_
    refine wy ((Yd.tr (eql) (by rw [hzx.len, hrl]; exact decide_eq_true rfl))) ?_
    refine wy asg ?_
    refine nl (h := ?_)
    refine q_seq (h := ?_)
    refine rtn (h := ?_)
    refine q_ret (hR := ?_)
    exact fun w hS => ⟨(), trivial, rfl, by rw [hol]; exact hS.sub slz_⟩
end Go.Proofs.YtmlhnajgiopfgaaGreat

namespace Go.Proofs.YtmlhnajgiopfgaaGreat
open Go Go.RowKit

abbrev isL (s : Sl) : Bool := decide (s.kind = 5)
def IntV (v : Value) : Prop := ∃ n : Int, v = .int .i64 n
structure LkI (l : List Sl) (k : Nat) (x : WnX) : Prop where
  s : LkS ((onceL (l.take k)).filter isL) x
  i : ∀ p ∈ x.kv, IntV p.2
theorem LkI.start (l : List Sl) : LkI l 0 ⟨#[], 0, []⟩ := ⟨⟨rfl, fun p hp => (by cases hp), stm0, rfl⟩, fun p hp => (by cases hp)⟩
theorem mem_updM {kv : List (List Fl × Value)} {k : List Fl} {v : Value} : ∀ {p : List Fl × Value}, p ∈ updM kv k v → p = (k, v) ∨ p ∈ kv := by
  induction kv with
  | nil => intro p hp; rw [updM, List.mem_singleton] at hp; exact .inl hp
  | cons q kv ih =>
    intro p hp
    rw [updM] at hp
    split at hp
    · rcases List.mem_cons.1 hp with rfl | hp
      · exact .inl rfl
      · exact .inr (List.mem_cons_of_mem _ hp)
    · rcases List.mem_cons.1 hp with rfl | hp
      · exact .inr List.mem_cons_self
      · exact (ih hp).imp id (List.mem_cons_of_mem _)
theorem updM_mem : ∀ (kv : List (List Fl × Value)) (k : List Fl) (v : Value), (k, v) ∈ updM kv k v
  | [], k, v => by simp [updM]
  | q :: kv, k, v => by
    rw [updM]
    split
    · exact List.mem_cons_self
    · exact List.mem_cons_of_mem _ (updM_mem kv k v)
theorem updM_old : ∀ {kv : List (List Fl × Value)} {k : List Fl} {v : Value} {p : List Fl × Value}, p ∈ kv → p.1 ≠ k → p ∈ updM kv k v
  | q :: kv, k, v, p, h, hn => by
    rw [updM]
    rcases List.mem_cons.1 h with rfl | h
    · rw [if_neg (fun e => hn e.symm)]; exact List.mem_cons_self
    · split
      · exact List.mem_cons_of_mem _ h
      · exact List.mem_cons_of_mem _ (updM_old h hn)
theorem LkI.put {l : List Sl} {k : Nat} {x : WnX} (h : LkI l k x) {s : Sl} (hs : l[k]? = some s) (h5 : s.kind = 5) {u : Value} (hu : IntV u) {es' : Array MapEntry} {c' : Nat} (hm : MapIs es' (updM x.kv (slK s) u)) (ht : Stm es' c') : LkI l (k + 1) ⟨es', c', updM x.kv (slK s) u⟩ := by
  refine ⟨⟨hm, updM_shape h.s.s rfl, ht, ?_⟩, fun p hp => ?_⟩
  · show (updM x.kv (slK s) u).map Prod.fst = _
    rw [updM_keys, h.s.k, List.take_add_one, hs, Option.toList_some, once_snoc]
    have hin : slK s ∈ ((onceL (l.take k)).filter isL).map slK ↔ s ∈ onceL (l.take k) := by
      constructor
      · intro h9
        obtain ⟨z, hz, e⟩ := List.mem_map.1 h9
        rw [slK_inj e] at hz
        exact (List.mem_filter.1 hz).1
      · intro h9
        exact List.mem_map.2 ⟨s, List.mem_filter.2 ⟨h9, decide_eq_true h5⟩, rfl⟩
    unfold addO
    by_cases e : s ∈ onceL (l.take k)
    · rw [if_pos (hin.2 e), if_pos e]
    · rw [if_neg (fun h9 => e (hin.1 h9)), if_neg e, List.filter_append, List.map_append, List.filter_cons_of_pos (by rw [decide_eq_true_eq]; exact h5)]; rfl
  · rcases mem_updM hp with rfl | hp
    · exact hu
    · exact h.i p hp
theorem LkI.skip {l : List Sl} {k : Nat} {x : WnX} (h : LkI l k x) {s : Sl} (hs : l[k]? = some s) (h5 : ¬ s.kind = 5) : LkI l (k + 1) x := by
  refine ⟨?_, h.i⟩
  have e : (onceL (l.take (k + 1))).filter isL = (onceL (l.take k)).filter isL := by
    rw [List.take_add_one, hs, Option.toList_some, once_snoc]
    unfold addO
    split
    · rfl
    · rw [List.filter_append, List.filter_cons_of_neg (by rw [decide_eq_true_eq]; exact h5), List.filter_nil, List.append_nil]
  rw [e]; exact h.s
theorem LkI.v {l : List Sl} {k : Nat} {x : WnX} (h : LkI l k x) : MapV x.es [false, false, false, false, false] IntV x.kv.length := ⟨x.kv, h.s.m, fun p hp => ⟨h.s.s p hp, h.i p hp⟩, Nat.le_refl _⟩
theorem intV0 : IntV (.int .i64 0) := ⟨0, rfl⟩

abbrev abK (s : Sl) : List Fl := [.i s.round, .i s.place]
theorem abK_eq {x y : Sl} : abK x = abK y ↔ x.round = y.round ∧ x.place = y.place := by
  simp only [abK, List.cons.injEq, Fl.i.injEq, and_true]
structure AbS (ps : List Sl) (y : WnX) : Prop where
  m : MapIs y.es y.kv
  s : ∀ p ∈ y.kv, shapeOf p.1 = [false, false]
  t : Stm y.es y.c
  e : ∀ p ∈ y.kv, ∃ z ∈ ps, z.kind ≠ 5 ∧ p = (abK z, z.val)
  a : ∀ z ∈ ps, z.kind ≠ 5 → (abK z, z.val) ∈ y.kv
theorem AbS.nil : AbS [] ⟨#[], 0, []⟩ := ⟨rfl, fun p hp => (by cases hp), stm0, fun p hp => (by cases hp), fun p hp => (by cases hp)⟩
abbrev UnO (l : List Sl) : Prop := ∀ y ∈ l, ∀ z ∈ l, y.kind ≠ 5 → z.kind ≠ 5 → y.round = z.round → y.place = z.place → y = z
theorem take_sub {l : List Sl} {k : Nat} {x : Sl} (h : x ∈ l.take k) : x ∈ l := List.mem_of_mem_take h
theorem AbS.look {l : List Sl} {k : Nat} {y : WnX} (h : AbS (l.take k) y) (hu : UnO l) {s : Sl} (hs : s ∈ l) (h5 : s.kind ≠ 5) : ∃ (lv : Sl) (ls : Bool), (lkp y.kv (abK s)).getD slZ.val = lv.val ∧ (lkp y.kv (abK s)).isSome = ls ∧ (ls = true → lv = s) := by
  cases e : lkp y.kv (abK s) with
  | none => exact ⟨slZ, false, rfl, rfl, fun h => (by cases h)⟩
  | some v =>
    refine ⟨s, true, ?_, rfl, fun _ => rfl⟩
    unfold lkp at e
    cases e2 : y.kv.find? fun p => decide (abK s = p.1) with
    | none => rw [e2] at e; cases e
    | some p =>
      rw [e2] at e
      have h1 := List.mem_of_find?_eq_some e2
      have h2 : abK s = p.1 := of_decide_eq_true (List.find?_some (p := fun p : List Fl × Value => decide (abK s = p.1)) e2)
      obtain ⟨z, hz, hz5, rfl⟩ := h.e p h1
      obtain ⟨h3, h4⟩ := abK_eq.1 h2
      have : s = z := hu s hs z (take_sub hz) h5 hz5 h3 h4
      subst this
      exact (Option.some.inj e).symm
theorem AbS.put {l : List Sl} {k : Nat} {y : WnX} (h : AbS (l.take k) y) (hu : UnO l) {s : Sl} (hs : l[k]? = some s) (h5 : s.kind ≠ 5) {es' : Array MapEntry} {c' : Nat} (hm : MapIs es' (updM y.kv (abK s) s.val)) (ht : Stm es' c') : AbS (l.take (k + 1)) ⟨es', c', updM y.kv (abK s) s.val⟩ := by
  rw [List.take_add_one, hs, Option.toList_some]
  have hsl := List.mem_of_getElem? hs
  refine ⟨hm, updM_shape h.s rfl, ht, fun p hp => ?_, fun z hz hz5 => ?_⟩
  · rcases mem_updM hp with rfl | hp
    · exact ⟨s, List.mem_append_right _ (by simp), h5, rfl⟩
    · obtain ⟨z, h1, h2⟩ := h.e p hp
      exact ⟨z, List.mem_append_left _ h1, h2⟩
  · rcases List.mem_append.1 hz with hz | hz
    · by_cases e : abK z = abK s
      · obtain ⟨h3, h4⟩ := abK_eq.1 e
        have : z = s := hu z (take_sub hz) s hsl hz5 h5 h3 h4
        subst this
        exact updM_mem _ _ _
      · exact updM_old (h.a z hz hz5) e
    · rw [List.mem_singleton] at hz
      subst hz
      exact updM_mem _ _ _
theorem AbS.skip {l : List Sl} {k : Nat} {y : WnX} (h : AbS (l.take k) y) {s : Sl} (hs : l[k]? = some s) (h5 : s.kind = 5) : AbS (l.take (k + 1)) y := by
  rw [List.take_add_one, hs, Option.toList_some]
  refine ⟨h.m, h.s, h.t, fun p hp => ?_, fun z hz hz5 => ?_⟩
  · obtain ⟨z, h1, h2⟩ := h.e p hp
    exact ⟨z, List.mem_append_left _ h1, h2⟩
  · rcases List.mem_append.1 hz with hz | hz
    · exact h.a z hz hz5
    · rw [List.mem_singleton] at hz; subst hz; exact absurd h5 hz5
abbrev abV (s : Sl) : KV := (.agg #[.int .i64 s.round, .int .i64 s.place], s.val)
theorem AbS.todo {l : List Sl} {y : WnX} (h : AbS l y) : (∀ e ∈ y.es.toList.map kvOf, ∃ z ∈ l, z.kind ≠ 5 ∧ e = abV z) ∧ ∀ z ∈ l, z.kind ≠ 5 → abV z ∈ y.es.toList.map kvOf := by
  have hm : y.es.toList.map kvOf = y.kv.map fun p => (Value.agg (fv p.1).toArray, p.2) := h.m
  rw [hm]
  constructor
  · intro e he
    obtain ⟨p, hp, rfl⟩ := List.mem_map.1 he
    obtain ⟨z, h1, h2, rfl⟩ := h.e p hp
    exact ⟨z, h1, h2, rfl⟩
  · intro z hz h5
    exact List.mem_map.2 ⟨_, h.a z hz h5, rfl⟩
theorem abV_inj {x y : Sl} (h : abV x = abV y) : x = y := sl_val (congrArg Prod.snd h)
def DoneZ (M : MM) (sl : List Int) (y : WnX) (z : Sl) : Prop := ∀ s, s < sl.length → sl.getD s 0 = z.player → ∀ r, r ≤ z.round.toNat → WonH M y r (s / 2 ^ (r + 1))
def ByeS (M : MM) (sl : List Int) (y : WnX) (k : Nat) : Prop := ∀ i, i < k → sl.getD i 0 = -1 → WonH M y 0 (i / 2)
structure AbI (l : List Sl) (M : MM) (sl : List Int) (y : WnX) (td : List KV) : Prop where
  w : WonS M y
  b : ByeS M sl y sl.length
  e : ∀ x ∈ td, ∃ z ∈ l, z.kind ≠ 5 ∧ x = abV z
  a : ∀ z ∈ l, z.kind ≠ 5 → abV z ∈ td ∨ DoneZ M sl y z
theorem AbI.step {l : List Sl} {M : MM} {sl : List Int} {y : WnX} {td td' : List KV} {o : Option KV} (h : AbI l M sl y td) (hn : NxO td o td') :
    (o = none ∧ ∀ z ∈ l, z.kind ≠ 5 → DoneZ M sl y z) ∨ ∃ z ∈ l, z.kind ≠ 5 ∧ o = some (abV z) ∧ td'.length < td.length ∧ ∀ y' : WnX, WonS M y' → (∀ r p, WonH M y r p → WonH M y' r p) → DoneZ M sl y' z → AbI l M sl y' td' := by
  cases o with
  | none =>
    refine .inl ⟨rfl, fun z hz h5 => ?_⟩
    rcases h.a z hz h5 with h1 | h1
    · rw [hn.1] at h1; cases h1
    · exact h1
  | some x =>
    have hp : td.Perm (x :: td') := hn
    obtain ⟨z, hz, h5, rfl⟩ := h.e x (hp.mem_iff.2 List.mem_cons_self)
    refine .inr ⟨z, hz, h5, rfl, by rw [hp.length_eq, List.length_cons]; omega, fun y' hw hmono hd => ⟨hw, fun i hi he => hmono _ _ (h.b i hi he), fun u hu => h.e u (hp.mem_iff.2 (List.mem_cons_of_mem _ hu)), fun u hu hu5 => ?_⟩⟩
    rcases h.a u hu hu5 with h1 | h1
    · rcases List.mem_cons.1 (hp.mem_iff.1 h1) with h2 | h2
      · rw [abV_inj h2]; exact .inr hd
      · exact .inl h2
    · exact .inr fun s h2 h3 r h4 => hmono _ _ (h1 s h2 h3 r h4)
theorem twin_twin (i : Nat) : twin (twin i) = i := by unfold twin; split <;> split <;> omega
theorem twin_half (i : Nat) : twin i / 2 = i / 2 := by unfold twin; split <;> omega
theorem won_all {l : List Sl} {M : MM} {sl : List Int} {y : WnX} (hi : DrI sl l M) (he : sl.length % 2 = 0) (hw : WonS M y) (hb : ByeS M sl y sl.length) (hd : ∀ z ∈ l, z.kind ≠ 5 → DoneZ M sl y z) : WonA M y := by
  refine ⟨hw, fun r p hne => ?_⟩
  obtain ⟨s, ⟨h1, h2, h3⟩, -⟩ := hi.a r p hne
  rcases h3 with ⟨rfl, h3⟩ | ⟨z, hz, h5, h6, h7⟩
  · have := hb (twin s) (twin_lt h1 he) h3
    rw [twin_half] at this
    rw [h2]; exact this
  · rw [h2]; exact hd z hz h5 s h1 h6 r h7
theorem ByeS.step {M : MM} {sl : List Int} {y y' : WnX} {k : Nat} (h : ByeS M sl y k) (hm : ∀ r p, WonH M y r p → WonH M y' r p) (hk : sl.getD k 0 = -1 → WonH M y' 0 (k / 2)) : ByeS M sl y' (k + 1) := fun i hi he => by
  by_cases e : i = k
  · subst e; exact hk he
  · exact hm _ _ (h i (by omega) he)
theorem idx_of {sl : List Int} {x : Int} {s : Nat} {j : Int} (hs : s < sl.length) (hx : sl.getD s 0 = x) (hu : ∀ i, i < sl.length → sl.getD i 0 = x → i = s) (h : Fst (pAt sl fun y => decide (x = y)) sl.length j) : j = (s : Nat) := by
  have hp : ∀ i, i < sl.length → (pAt sl (fun y => decide (x = y)) i = decide (x = sl.getD i 0)) := fun i hi => pAt_eq (at_getD hi)
  rcases h with ⟨k, hk, rfl, h1, h2⟩ | ⟨rfl, h1⟩
  · rw [hp k hk] at h1
    rw [hu k hk (of_decide_eq_true h1).symm]
  · have := h1 s hs
    rw [hp s hs, hx] at this
    exact absurd rfl (of_decide_eq_false this)
end Go.Proofs.YtmlhnajgiopfgaaGreat

namespace Go.Proofs.YtmlhnajgiopfgaaGreat
open Go Go.RowKit

structure AgZ where
  (k : Nat) (x y : WnX)
structure ByZ where
  (k : Nat) (y : WnX)
structure AoZ where
  (td : List KV) (o : Option KV) (y : WnX)
theorem Agr.pl {t : Tre} {l : List Sl} {d : Dr} (h : Agr t l d) : ∃ qe, plG (onceL l) t.sl t.sl.length = some qe ∧ qe.used = luckyN (onceL l) ∧ qe.out = d.sl := by
  have h1 := h.o.2.1
  unfold playersV at h1
  cases e : plG (onceL l) t.sl t.sl.length with
  | none => rw [e] at h1; cases h1
  | some q =>
    rw [e] at h1
    dsimp only at h1
    split at h1
    · next hu => exact ⟨q, rfl, hu, Option.some.inj h1⟩
    · cases h1
theorem mgE {r p r' p' : Int} (h1 : r = r') (h2 : p = p') : (!decide ([r, p] = [r', p'])) = false := by rw [h1, h2, decide_eq_true rfl]; rfl
theorem T_br_winsZ (t : Tre) (sl : List Int) (q : DwX) (M : MM) (x : WnX) (hx : WonS M x) (s rd : Nat) (z : Int) (hz : z = rd) (hs : s < sl.length) (hrd : rd ≤ 50) (hM : ∀ r, r ≤ rd → M r (s / 2 ^ (r + 1)) = sl.getD s 0) (hs2 : sl.getD s 0 ≠ -2) (hn : sl.length ≤ 1000) :
    Tr Tryz.prog 82 [.pointer (some ⟨q.b, 0, none⟩), .int .i64 s, .int .i64 z] (dwL t sl q x) (fun y : WnX => WonS M y ∧ (∀ r p, WonH M x r p → WonH M y r p) ∧ ∀ r, r ≤ rd → WonH M y r (s / 2 ^ (r + 1))) (fun _ => .bool true) (fun y => dwL t sl q y) := by
  subst hz
  exact T_br_wins t sl q M x hx s rd hs hrd hM hs2 hn
theorem C_br_ofZ (r s : Nat) (z : Int) (hz : z = r) (hr : r ≤ 60) (w : World) : C0 Tryz.prog 83 [.int .i64 z, .int .i64 s] w (.agg #[.int .i64 z, .int .i64 (s / 2 ^ (r + 1) : Nat)]) := by
  subst hz
  exact C_br_of r s hr w
set_option maxRecDepth 100000 in
set_option maxHeartbeats 2000000 in
theorem C_br_agree (t : Tre) (l : List Sl) (d : Dr) (ha : Agr t l d) (A : Option Addr) (c : Nat) (w : World) (h : Rd w t.A 1 t.sl.length (enI t.sl)) (hL : Rd w A 5 l.length (encSl l)) :
    CR Tryz.prog 59 [t.val, .slice A l.length c] w (fun x : DwX × WnX => WonA d.M x.2) (fun x => .tuple #[.pointer (some ⟨x.1.b, 0, none⟩), .bool true]) (fun x => dwL t d.sl x.1 x.2) := by
  obtain ⟨ho, -, -⟩ := ha.o
  obtain ⟨qe, hqe, hqu, hqo⟩ := ha.pl
  obtain ⟨dsl, M⟩ := d
  dsimp only at hqo
  subst hqo
  have hDI := ho.i
  have hPO := ho.p
  dsimp only at hDI hPO
  have hle := tre_le ha.tr
  have hln := ha.n
  have hol := hPO.n
  have hev := hPO.ev
  have hal : (onceL l).length ≤ 100 := by have := once_len l; omega
  have hUn : UnO l := hDI.u
  refine ⟨en Tryz.func59 Tryz.ntmps59 (((St.init w).share (e := .ro t.A 1 t.sl.length (enI t.sl)) h rfl rfl rfl).share (e := .ro A 5 l.length (encSl l)) hL rfl rfl rfl) (h := fun F => ?_)⟩
  refine sq (h := ?_)
  refine rg (h := ?_)
  refine bxA (h := fun b0 => ?_)
  refine wy asg ?_
  refine wy asg ?_
  refine nl (h := ?_)
  refine q_seq (h := ?_)
  refine ct (X := DwX) (fun _ => True) (fun q => [(1, .slice A l.length c), (6, .pointer (some ⟨q.b, 0, none⟩))]) (fun q => [.blk q.b 97 (dwC t t.sl.length q), .own q.pA q.pc 3 1 t.sl.length (enI t.sl), .obj q.mb (.map #[] 0), .ro t.A 1 t.sl.length (enI t.sl), .ro A 5 l.length (encSl l)]) (h1 := ?_) (h2 := ?_)
  · skip
    refine rgD (by kernel_rfl) [(1000000, .blk b0 24 t.cells)] (by repeat (first | exact HS.nil | (apply HS.keep; (repeat (first | exact At.here | apply At.there))) | (apply HS.ro; (repeat (first | exact Rds.ro | exact Rds.own | apply Rds.there))))) (h := ?_)
    refine tk 0 (hy := (by first | exact ldA | exact ldEA)) (h := ?_)
    refine tk 1 (hy := (by first | exact fa | exact faE)) (h := ?_)
    refine tk 2 (hy := (by first | exact ld | exact ldE)) (h := ?_)
    refine two 3 4 (h1 := ?_) (h2 := ?_)
    · skip
      refine cl (hc := fun w hS => C_CloneInts t.A t.sl.length t.c (enI t.sl) w (hS.get rdz_) (by omega)) (h := fun ce _ => ?_)
      refine nx (h := ?_)
      refine one 4 (h := ?_)
      refine mkm (h := fun b1 => ?_)
      refine nx (h := ?_)
      refine tk 5 (hy := bd) (h := ?_)
      refine one 6 (h := ?_)
      refine bxA (h := fun b2 => ?_)
      refine nx (h := ?_)
      refine tk 7 (hy := asg) (h := ?_)
      refine dn (h := ?_)
      first
        | exact ctn (x := ⟨b2, ce.1, ce.2, b1⟩) trivial sbz_ slz_
        | exact ctn (x := ⟨b4, ce.1, ce.2, b3⟩) trivial sbz_ slz_
    · skip
      refine mkm (h := fun b3 => ?_)
      refine nx (h := ?_)
      refine one 3 (h := ?_)
      refine cl (hc := fun w hS => C_CloneInts t.A t.sl.length t.c (enI t.sl) w (hS.get rdz_) (by omega)) (h := fun ce _ => ?_)
      refine nx (h := ?_)
      refine tk 5 (hy := bd) (h := ?_)
      refine one 6 (h := ?_)
      refine bxA (h := fun b4 => ?_)
      refine nx (h := ?_)
      refine tk 7 (hy := asg) (h := ?_)
      refine dn (h := ?_)
      first
        | exact ctn (x := ⟨b2, ce.1, ce.2, b1⟩) trivial sbz_ slz_
        | exact ctn (x := ⟨b4, ce.1, ce.2, b3⟩) trivial sbz_ slz_
  rintro q -
  refine sq (h := ?_)
  refine rg (h := ?_)
  refine mkm (h := fun b5 => ?_)
  refine mkm (h := fun b6 => ?_)
  refine wy asg ?_
  refine wy asg ?_
  refine nl (h := ?_)
  refine q_seq (h := ?_)
  refine sq (h := ?_)
  refine sq (h := ?_)
  refine rg (h := ?_)
  refine wy mv ?_
  refine wy lenS ?_
  refine wy mv ?_
  refine nl (h := ?_)
  refine q_seq (h := ?_)
  refine bk (h := ?_)
  refine lp (X := AgZ) (I := fun z => z.k ≤ l.length ∧ LkI l z.k z.x ∧ AbS (l.take z.k) z.y) (le := fun z => [(6, .pointer (some ⟨q.b, 0, none⟩)), (7, .map (some b5)), (8, .map (some b6)), (28, .slice A l.length c), (29, .int .i64 l.length), (30, .int .i64 z.k)]) (Le := fun z => .obj b5 (.map z.x.es z.x.c) :: .obj b6 (.map z.y.es z.y.c) :: [.blk q.b 97 (dwC t t.sl.length q), .own q.pA q.pc 3 1 t.sl.length (enI t.sl), .obj q.mb (.map #[] 0), .ro t.A 1 t.sl.length (enI t.sl), .ro A 5 l.length (encSl l)]) (μ := fun z => l.length - z.k) ⟨0, ⟨#[], 0, []⟩, ⟨#[], 0, []⟩⟩ ⟨Nat.zero_le _, LkI.start l, AbS.nil⟩ sbz_ slz_ (fun z hz => ?_)
  obtain ⟨hzk, hzx, hzy⟩ := hz
  refine sq (h := ?_)
  refine rg (h := ?_)
  refine wy lss ?_
  refine nl (h := ?_)
  refine q_seq (h := ?_)
  refine sq (h := ?_)
  refine cd (by exact rfl) (fun h0 => ?_) (fun h0 => ?_)
  · skip
    have hkn : z.k < l.length := by have := of_decide_eq_true h0; omega
    obtain ⟨s, hs⟩ : ∃ s, l[z.k]? = some s := ⟨_, List.getElem?_eq_getElem hkn⟩
    have hxe := encSl_at hs
    have hsm := List.mem_of_getElem? hs
    refine skp (h := ?_)
    refine q_seq (h := ?_)
    refine sq (h := ?_)
    refine bk (h := ?_)
    refine sq (h := ?_)
    refine rg (h := ?_)
    refine wy (ix (A := A) (m := l.length) (hb := by omega)) ?_
    refine wy (ldEW (A := A) (cs := s.cells) (hk := hxe)) ?_
    refine al (h := fun b7 => ?_)
    first | refine stA (h := ?_) | refine stEA (h := ?_)
    refine nl (h := ?_)
    refine q_seq (h := ?_)
    refine sq (h := ?_)
    refine sq (h := ?_)
    refine rg (h := ?_)
    refine wy (by first | exact fa | exact faE) ?_
    refine wy (by first | exact ld | exact ldE) ?_
    refine wy eql ?_
    refine nl (h := ?_)
    refine q_seq (h := ?_)
    refine cd (by exact rfl) (fun h1 => ?_) (fun h1 => ?_)
    · skip
      have h5L : s.kind = 5 := of_decide_eq_true h1
      refine sq (h := ?_)
      refine rgD (by kernel_rfl) [(1000000, .blk b7 54 s.cells)] (by repeat (first | exact HS.nil | (apply HS.keep; (repeat (first | exact At.here | apply At.there))) | (apply HS.ro; (repeat (first | exact Rds.ro | exact Rds.own | apply Rds.there))))) (h := ?_)
      refine tk 0 (hy := mv) (h := ?_)
      refine tk 1 (hy := (by first | exact ldA | exact ldEA)) (h := ?_)
      refine two 2 4 (h1 := ?_) (h2 := ?_)
      · skip
        first
          | refine lkV (Pv := IntV) (hm := hmv2) (hz := intV0) (h := fun v0 hv0 => ?_)
          | refine lkV (Pv := IntV) (hm := hzx.v) (hz := intV0) (h := fun v0 hv0 => ?_)
        obtain ⟨i0, rfl⟩ := hv0
        refine nx (h := ?_)
        refine tk 3 (hy := addW) (h := ?_)
        refine one 4 (h := ?_)
        refine mpX (b := b5) (c := z.x.c) (k := slK s) (hm := hzx.s.m) (hs := hzx.s.s) (hst0 := hzx.s.t) (h := fun es2 c2 v2 s2 kv2 j2 hm2 ht2 hj2 hu2 hp2 => ?_)
        have hmv2 : MapV es2 [false, false, false, false, false] IntV kv2.length := ⟨kv2, hm2, fun p hp => (hp2 p hp).elim (fun h9 => ⟨hzx.s.s p h9, hzx.i p h9⟩) (fun h9 => by rw [h9]; exact ⟨rfl, intV0⟩), Nat.le_refl _⟩
        refine nx (h := ?_)
        refine tk 5 (hy := ex) (h := ?_)
        refine one 6 (h := ?_)
        refine esX (hm := hm2) (hst0 := ht2) (hj := hj2) (h := fun es3 hm3 ht3 => ?_)
        rw [hu2] at hm3
        refine nx (h := ?_)
        refine dn (h := ?_)
        refine q_seq (h := ?_)
        refine et (h := ?_)
        refine q_then_exit (h := ?_)
        refine q_blk_hit (h := ?_)
        refine q_seq (h := ?_)
        refine rg (h := ?_)
        refine wy addI ?_
        refine wy mv ?_
        refine nl (h := ?_)
        first
          | (have e9 := h5L; refine rn (x := z) ⟨z.k + 1, ⟨es3, c2, _⟩, z.y⟩ ⟨hkn, hzx.put hs h5L ⟨_, rfl⟩ hm3 ht3, hzy.skip hs h5L⟩ (by dsimp only; omega) sbz_ slz_; done)
          | (have e9 := h5N; refine rn (x := z) ⟨z.k + 1, z.x, ⟨es4, c4, _⟩⟩ ⟨hkn, hzx.skip hs h5N, hzy.put hUn hs h5N hm4 ht4⟩ (by dsimp only; omega) sbz_ slz_; done)
      · skip
        refine mpX (b := b5) (c := z.x.c) (k := slK s) (hm := hzx.s.m) (hs := hzx.s.s) (hst0 := hzx.s.t) (h := fun es2 c2 v2 s2 kv2 j2 hm2 ht2 hj2 hu2 hp2 => ?_)
        have hmv2 : MapV es2 [false, false, false, false, false] IntV kv2.length := ⟨kv2, hm2, fun p hp => (hp2 p hp).elim (fun h9 => ⟨hzx.s.s p h9, hzx.i p h9⟩) (fun h9 => by rw [h9]; exact ⟨rfl, intV0⟩), Nat.le_refl _⟩
        refine nx (h := ?_)
        refine tk 5 (hy := ex) (h := ?_)
        refine one 2 (h := ?_)
        first
          | refine lkV (Pv := IntV) (hm := hmv2) (hz := intV0) (h := fun v0 hv0 => ?_)
          | refine lkV (Pv := IntV) (hm := hzx.v) (hz := intV0) (h := fun v0 hv0 => ?_)
        obtain ⟨i0, rfl⟩ := hv0
        refine nx (h := ?_)
        refine tk 3 (hy := addW) (h := ?_)
        refine one 6 (h := ?_)
        refine esX (hm := hm2) (hst0 := ht2) (hj := hj2) (h := fun es3 hm3 ht3 => ?_)
        rw [hu2] at hm3
        refine nx (h := ?_)
        refine dn (h := ?_)
        refine q_seq (h := ?_)
        refine et (h := ?_)
        refine q_then_exit (h := ?_)
        refine q_blk_hit (h := ?_)
        refine q_seq (h := ?_)
        refine rg (h := ?_)
        refine wy addI ?_
        refine wy mv ?_
        refine nl (h := ?_)
        first
          | (have e9 := h5L; refine rn (x := z) ⟨z.k + 1, ⟨es3, c2, _⟩, z.y⟩ ⟨hkn, hzx.put hs h5L ⟨_, rfl⟩ hm3 ht3, hzy.skip hs h5L⟩ (by dsimp only; omega) sbz_ slz_; done)
          | (have e9 := h5N; refine rn (x := z) ⟨z.k + 1, z.x, ⟨es4, c4, _⟩⟩ ⟨hkn, hzx.skip hs h5N, hzy.put hUn hs h5N hm4 ht4⟩ (by dsimp only; omega) sbz_ slz_; done)
    · skip
      have h5N : ¬ s.kind = 5 := of_decide_eq_false h1
      obtain ⟨lv, ls, hlv, hls, hlx⟩ := hzy.look hUn hsm h5N
      refine skp (h := ?_)
      refine q_seq (h := ?_)
      refine sq (h := ?_)
      refine rg (h := ?_)
      refine wy (by first | exact fa | exact faE) ?_
      refine wy (by first | exact ld | exact ldE) ?_
      refine wy (by first | exact fa | exact faE) ?_
      refine wy (by first | exact ld | exact ldE) ?_
      refine wy bd ?_
      refine al (h := fun b8 => ?_)
      first | refine stA (h := ?_) | refine stEA (h := ?_)
      refine nl (h := ?_)
      refine q_seq (h := ?_)
      refine sq (h := ?_)
      refine sq (h := ?_)
      refine rg (h := ?_)
      refine wy mv ?_
      refine wy (by first | exact ldA | exact ldEA) ?_
      refine wy (lkO (b := b6) (c := z.y.c) (k := abK s) (v := lv.val) (s := ls) (hm := hzy.m) (hs := hzy.s) (hv := hlv) (hb := hls)) ?_
      refine wy mv ?_
      refine wy ex ?_
      refine wy ex ?_
      refine al (h := fun b9 => ?_)
      first | refine stA (h := ?_) | refine stEA (h := ?_)
      refine wy asg ?_
      refine WL.cut (by repeat (first | exact Cut.nil | apply Cut.hit | apply Cut.miss (by exact rfl))) ?_
      refine nl (h := ?_)
      refine q_seq (h := ?_)
      refine sq (h := ?_)
      refine rg (h := ?_)
      refine wy mv ?_
      refine wy mv ?_
      apply brAnd 4 55 59 (by exact rfl)
      · intro hb2
        have hlx2 := hlx hb2
        refine un (h := ?_)
        refine wy (by first | exact ldA | exact ldEA) ?_
        refine un (h := ?_)
        refine wy (by first | exact ldA | exact ldEA) ?_
        refine un (h := ?_)
        refine wy ((Yd.fl (neSl (x := lv) (y := s)) (by rw [decide_eq_true hlx2]; rfl))) ?_
        refine wy (by first | exact pkT | exact pkF) ?_
        exact mg (by repeat (first | exact trivial | refine ⟨rfl, ?_⟩ | refine ⟨by rw [hb2]; rfl, ?_⟩)) slz_
      · intro hb2
        repeat (first | refine un (h := ?_) | refine sk (h := ?_) | refine WL.y (hy := pkF) (h := ?_) | refine WL.y (hy := pkT) (h := ?_))
        exact mg (by repeat (first | exact trivial | refine ⟨rfl, ?_⟩ | refine ⟨by rw [hb2]; rfl, ?_⟩)) slz_
      refine nl (h := ?_)
      refine q_seq (h := ?_)
      refine cd (by exact rfl) (fun h3 => ?_) (fun h3 => ?_)
      · skip
        exfalso
        have h9 := h3
        rw [Bool.and_false] at h9
        cases h9
      · skip
        refine skp (h := ?_)
        refine q_seq (h := ?_)
        refine rg (h := ?_)
        refine wy mv ?_
        refine wy (by first | exact ldA | exact ldEA) ?_
        refine wy (by first | exact ldA | exact ldEA) ?_
        refine mupS (b := b6) (c := z.y.c) (k := abK s) (v := s.val) (hm := hzy.m) (hs := hzy.s) (hst0 := hzy.t) (h := fun es4 c4 hm4 ht4 => ?_)
        refine nl (h := ?_)
        refine q_blk_norm (h := ?_)
        refine q_seq (h := ?_)
        refine rg (h := ?_)
        refine wy addI ?_
        refine wy mv ?_
        refine nl (h := ?_)
        first
          | (have e9 := h5L; refine rn (x := z) ⟨z.k + 1, ⟨es3, c2, _⟩, z.y⟩ ⟨hkn, hzx.put hs h5L ⟨_, rfl⟩ hm3 ht3, hzy.skip hs h5L⟩ (by dsimp only; omega) sbz_ slz_; done)
          | (have e9 := h5N; refine rn (x := z) ⟨z.k + 1, z.x, ⟨es4, c4, _⟩⟩ ⟨hkn, hzx.skip hs h5N, hzy.put hUn hs h5N hm4 ht4⟩ (by dsimp only; omega) sbz_ slz_; done)
  · skip
    have hkn : z.k = l.length := by have := of_decide_eq_false h0; omega
    have hzx9 : LkS ((onceL l).filter isL) z.x := by have h9 := hzx.s; rwa [hkn, List.take_length] at h9
    have hzy9 : AbS l z.y := by rwa [hkn, List.take_length] at hzy
    refine et (h := ?_)
    refine q_then_exit (h := ?_)
    refine q_then_exit (h := ?_)
    refine q_blk_hit (h := ?_)
    refine q_seq (h := ?_)
    refine sq (h := ?_)
    refine sq (h := ?_)
    refine rg (h := ?_)
    refine wy mv ?_
    refine wy mv ?_
    refine clT (hc := T_br_replace t (onceL l) (once_nodup l) qe hqe hqu hal q b5 z.x hzx9 (by omega)) (h := fun _ _ => ?_)
    refine wy notB ?_
    refine nl (h := ?_)
    refine q_seq (h := ?_)
    refine cdF (h := ?_)
    refine skp (h := ?_)
    refine q_seq (h := ?_)
    refine sq (h := ?_)
    refine sq (h := ?_)
    refine rg (h := ?_)
    refine wy mv ?_
    refine wy nck ?_
    refine wy (by first | exact fa | exact faE) ?_
    refine wy (by first | exact ld | exact ldE) ?_
    refine wy lenS ?_
    refine wy mv ?_
    refine nl (h := ?_)
    refine q_seq (h := ?_)
    refine bk (h := ?_)
    refine lp (X := ByZ) (I := fun v => v.k ≤ qe.out.length ∧ WonS M v.y ∧ ByeS M qe.out v.y v.k) (le := fun v => [(6, .pointer (some ⟨q.b, 0, none⟩)), (8, .map (some b6)), (71, .slice q.pA qe.out.length q.pc), (72, .int .i64 qe.out.length), (73, .int .i64 v.k)]) (Le := fun v => .obj b6 (.map z.y.es z.y.c) :: dwL t qe.out q v.y) (μ := fun v => qe.out.length - v.k) ⟨0, ⟨#[], 0, []⟩⟩ ⟨Nat.zero_le _, WonS.nil M, fun i hi => absurd hi (Nat.not_lt_zero _)⟩ sbz_ slz_ (fun v hv => ?_)
    obtain ⟨hv1, hv2, hv3⟩ := hv
    refine sq (h := ?_)
    refine rg (h := ?_)
    refine wy lss ?_
    refine nl (h := ?_)
    refine q_seq (h := ?_)
    refine sq (h := ?_)
    refine cd (by exact rfl) (fun h5 => ?_) (fun h5 => ?_)
    · skip
      have hvn : v.k < qe.out.length := by have := of_decide_eq_true h5; omega
      have hye := enI_at (at_getD hvn)
      refine skp (h := ?_)
      refine q_seq (h := ?_)
      refine sq (h := ?_)
      refine bk (h := ?_)
      refine sq (h := ?_)
      refine rg (h := ?_)
      refine wy mv ?_
      refine wy (ix (A := q.pA) (m := qe.out.length) (hb := by omega)) ?_
      refine wy (ldE (A := q.pA) (hk := hye)) ?_
      refine wy asg ?_
      refine WL.cut (by repeat (first | exact Cut.nil | apply Cut.hit | apply Cut.miss (by exact rfl))) ?_
      refine wy asg ?_
      refine WL.cut (by repeat (first | exact Cut.nil | apply Cut.hit | apply Cut.miss (by exact rfl))) ?_
      refine nl (h := ?_)
      refine q_seq (h := ?_)
      refine sq (h := ?_)
      refine rg (h := ?_)
      refine wy mv ?_
      refine wy eql ?_
      refine nl (h := ?_)
      refine q_seq (h := ?_)
      refine cd (by exact rfl) (fun h6 => ?_) (fun h6 => ?_)
      · skip
        have hbL : qe.out.getD v.k 0 = -1 := of_decide_eq_true h6
        have htl := twin_lt hvn hev
        have htr := hPO.rng (twin v.k) htl
        refine rg (h := ?_)
        refine wy mv ?_
        refine wy mv ?_
        refine wy xorI ?_
        rw [xorV_one (by omega)]
        refine clT (hc := T_br_wins t qe.out q M v.y hv2 (twin v.k) 0 htl (by omega) (fun r hr => by obtain rfl : r = 0 := Nat.le_zero.1 hr; exact hDI.b 0 _ (twin v.k) ⟨htl, rfl, .inl ⟨rfl, by rw [twin_twin]; exact hbL⟩⟩) (by omega) (by omega)) (h := fun y2 hy2 => ?_)
        refine nl (h := ?_)
        refine q_blk_norm (h := ?_)
        refine q_seq (h := ?_)
        refine rg (h := ?_)
        refine wy addI ?_
        refine wy mv ?_
        refine nl (h := ?_)
        first
          | (have e9 := hbL; refine rn (x := v) ⟨v.k + 1, y2⟩ ⟨hvn, hy2.1, hv3.step hy2.2.1 fun _ => by
              have h9 := hy2.2.2 0 (Nat.le_refl _)
              rwa [show twin v.k / 2 ^ (0 + 1) = v.k / 2 from twin_half v.k] at h9⟩ (by dsimp only; omega) sbz_ slz_; done)
          | (have e9 := hbN; refine rn (x := v) ⟨v.k + 1, v.y⟩ ⟨hvn, hv2, hv3.step (fun _ _ h9 => h9) fun e => absurd e hbN⟩ (by dsimp only; omega) sbz_ slz_; done)
      · skip
        have hbN : ¬ qe.out.getD v.k 0 = -1 := of_decide_eq_false h6
        refine skp (h := ?_)
        refine q_blk_norm (h := ?_)
        refine q_seq (h := ?_)
        refine rg (h := ?_)
        refine wy addI ?_
        refine wy mv ?_
        refine nl (h := ?_)
        first
          | (have e9 := hbL; refine rn (x := v) ⟨v.k + 1, y2⟩ ⟨hvn, hy2.1, hv3.step hy2.2.1 fun _ => by
              have h9 := hy2.2.2 0 (Nat.le_refl _)
              rwa [show twin v.k / 2 ^ (0 + 1) = v.k / 2 from twin_half v.k] at h9⟩ (by dsimp only; omega) sbz_ slz_; done)
          | (have e9 := hbN; refine rn (x := v) ⟨v.k + 1, v.y⟩ ⟨hvn, hv2, hv3.step (fun _ _ h9 => h9) fun e => absurd e hbN⟩ (by dsimp only; omega) sbz_ slz_; done)
    · skip
      have hvn : v.k = qe.out.length := by have := of_decide_eq_false h5; omega
      rw [hvn] at hv3
      refine et (h := ?_)
      refine q_then_exit (h := ?_)
      refine q_then_exit (h := ?_)
      refine q_blk_hit (h := ?_)
      refine q_seq (h := ?_)
      refine sq (h := ?_)
      refine sq (h := ?_)
      refine rg (h := ?_)
      refine wy mv ?_
      refine rngO (b := b6) (es := z.y.es) (c := z.y.c) (h := fun r1 => ?_)
      refine nl (h := ?_)
      refine q_seq (h := ?_)
      refine bk (h := ?_)
      refine lp (X := AoZ) (I := fun p => AbI l M qe.out p.y p.td) (le := fun p => [(6, .pointer (some ⟨q.b, 0, none⟩)), (86, .pointer (some ⟨r1, 0, none⟩))]) (Le := fun p => itE r1 b6 z.y.es z.y.c p.td p.o :: .obj b6 (.map z.y.es z.y.c) :: dwL t qe.out q p.y) (μ := fun p => p.td.length) ⟨_, none, v.y⟩ ⟨hv2, hv3, hzy9.todo.1, fun s hs h5 => .inl (hzy9.todo.2 s hs h5)⟩ sbz_ slz_ (fun p hpI => ?_)
      refine sq (h := ?_)
      refine rg (h := ?_)
      refine nxtO (b := b6) (hs := hzy9.t) (h := fun o2 tk2 ho2 => ?_)
      refine wy exN ?_
      refine nl (h := ?_)
      refine q_seq (h := ?_)
      refine sq (h := ?_)
      refine cd (by exact rfl) (fun h7 => ?_) (fun h7 => ?_)
      · skip
        rcases hpI.step ho2 with ⟨rfl, hno⟩ | ⟨u, hum, hu5, rfl, hlt, hst2⟩
        · cases h7
        have huw := slp_won (ho.s u hum) hu5
        have hrg := match_rng huw.2.1
        obtain ⟨s, hsl, hsp, hsq⟩ := hDI.c u hum hu5
        have hur : u.round = ((u.round.toNat : Nat) : Int) := by omega
        have hpl := slp_player (ho.s u hum)
        have hRl := ha.tr.r
        have huq : ∀ i, i < qe.out.length → qe.out.getD i 0 = u.player → i = s := fun i hi he => hPO.inj i s hi hsl (by rw [he, hsp]) (by rw [he]; omega)
        refine skp (h := ?_)
        refine q_seq (h := ?_)
        refine bk (h := ?_)
        refine sq (h := ?_)
        refine rg (h := ?_)
        refine wy (entO (b := b6) (hs := hzy9.t)) ?_
        refine wy ex ?_
        refine wy ex ?_
        refine al (h := fun b10 => ?_)
        refine al (h := fun b11 => ?_)
        first | refine stA (h := ?_) | refine stEA (h := ?_)
        first | refine stA (h := ?_) | refine stEA (h := ?_)
        refine nl (h := ?_)
        refine q_seq (h := ?_)
        refine sq (h := ?_)
        refine rgD (by kernel_rfl) [(1000000, .blk q.b 97 (dwC t qe.out.length q)), (1000000, .blk b11 54 u.cells)] (by repeat (first | exact HS.nil | (apply HS.keep; (repeat (first | exact At.here | apply At.there))) | (apply HS.ro; (repeat (first | exact Rds.ro | exact Rds.own | apply Rds.there))))) (h := ?_)
        refine tk 0 (hy := mv) (h := ?_)
        refine tk 1 (hy := nck) (h := ?_)
        refine tk 2 (hy := (by first | exact fa | exact faE)) (h := ?_)
        refine tk 3 (hy := (by first | exact ld | exact ldE)) (h := ?_)
        refine tk 4 (hy := (by first | exact fa | exact faE)) (h := ?_)
        refine tk 5 (hy := (by first | exact ld | exact ldE)) (h := ?_)
        refine one 6 (h := ?_)
        refine cl (hc := fun w hS => C_slices_Index qe.out u.player q.pA qe.out.length q.pc w (hS.get rdz_) (by omega)) (h := fun j1 hj1 => ?_)
        obtain rfl := idx_of hsl hsp huq hj1
        refine nx (h := ?_)
        refine tk 7 (hy := asg) (h := ?_)
        refine dn (h := ?_)
        refine q_seq (h := ?_)
        refine sq (h := ?_)
        refine rgD (by kernel_rfl) [(1000000, .blk b10 93 [.int .i64 u.round, .int .i64 u.place])] (by repeat (first | exact HS.nil | (apply HS.keep; (repeat (first | exact At.here | apply At.there))) | (apply HS.ro; (repeat (first | exact Rds.ro | exact Rds.own | apply Rds.there))))) (h := ?_)
        refine tk 0 (hy := mv) (h := ?_)
        refine tk 1 (hy := (Yd.fl (lss) (by exact decide_eq_false (by omega)))) (h := ?_)
        refine tk 2 (hy := mv) (h := ?_)
        refine tk 3 (hy := (by first | exact fa | exact faE)) (h := ?_)
        refine tk 4 (hy := (by first | exact ld | exact ldE)) (h := ?_)
        refine tk 5 (hy := mv) (h := ?_)
        refine tk 7 (hy := (by first | exact ldA | exact ldEA)) (h := ?_)
        refine one 6 (h := ?_)
        refine un (h := ?_)
        refine cl0 (hc := fun w hS => C_br_ofZ u.round.toNat s u.round hur (by omega) w) (h := ?_)
        refine nx (h := ?_)
        refine tk 8 (hy := (Yd.fl (neqT) (by exact mgE rfl hsq))) (h := ?_)
        refine tk 9 (hy := (by first | exact pkT | exact pkF)) (h := ?_)
        refine tk 10 (hy := mv) (h := ?_)
        refine tk 11 (hy := mv) (h := ?_)
        refine tk 12 (hy := mv) (h := ?_)
        refine tk 13 (hy := (by first | exact fa | exact faE)) (h := ?_)
        refine tk 14 (hy := (by first | exact ld | exact ldE)) (h := ?_)
        refine one 15 (h := ?_)
        refine un (h := ?_)
        refine clT (hc := T_br_winsZ t qe.out q M p.y hpI.w s u.round.toNat u.round hur hsl (by omega) (fun r hr => hDI.b r _ s ⟨hsl, rfl, .inr ⟨u, hum, hu5, hsp, hr⟩⟩) (by rw [hsp]; omega) (by omega)) (h := fun y2 hy2 => ?_)
        refine nx (h := ?_)
        refine tk 16 (hy := notB) (h := ?_)
        refine tk 17 (hy := (by first | exact pkT | exact pkF)) (h := ?_)
        refine dn (h := ?_)
        refine q_seq (h := ?_)
        refine cdF (h := ?_)
        refine skp (h := ?_)
        refine q_blk_norm (h := ?_)
        refine rn (x := p) ⟨tk2, some (abV u), y2⟩ (hst2 y2 hy2.1 hy2.2.1 fun s' h7 h8 r hr => by rw [huq s' h7 h8]; exact hy2.2.2 r hr) hlt sbz_ slz_
      · skip
        rcases hpI.step ho2 with ⟨rfl, hno⟩ | ⟨u, hum, hu5, rfl, hlt, hst2⟩
        rotate_left
        · cases h7
        have hall := won_all hDI hev hpI.w hpI.b hno
        refine et (h := ?_)
        refine q_then_exit (h := ?_)
        refine q_then_exit (h := ?_)
        refine q_blk_hit (h := ?_)
        refine q_seq (h := ?_)
        refine sq (h := ?_)
        refine rg (h := ?_)
        refine wy mv ?_
        refine wy asg ?_
        refine wy asg ?_
        refine nl (h := ?_)
        refine q_seq (h := ?_)
        refine rtn (h := ?_)
        refine q_ret (hR := ?_)
        exact fun w hS => ⟨(q, p.y), hall, rfl, hS.sub slz_⟩
end Go.Proofs.YtmlhnajgiopfgaaGreat

namespace Go.Proofs.YtmlhnajgiopfgaaGreat
open Go Go.RowKit

set_option maxRecDepth 100000 in
theorem C_br_open (t : Tre) (l : List Sl) (d : Dr) (ha : Agr t l d) (hc : t.sl.length ≤ t.c) (A : Option Addr) (c : Nat) (w : World) (h : Rd w t.A 1 t.sl.length (enI t.sl)) (hL : Rd w A 5 l.length (encSl l)) :
    CR Tryz.prog 33 [t.val, .slice A l.length c] w (fun x : DwX × WnX => WonA d.M x.2) (fun x => .tuple #[.pointer (some ⟨x.1.b, 0, none⟩), .int .i64 0]) (fun x => dwL t d.sl x.1 x.2) := by
  have hln := ha.n
  refine ⟨en Tryz.func33 Tryz.ntmps33 (((St.init w).share (e := .ro t.A 1 t.sl.length (enI t.sl)) h rfl rfl rfl).share (e := .ro A 5 l.length (encSl l)) hL rfl rfl rfl) (h := fun F => ?_)⟩
  refine sq (h := ?_)
  refine rg (h := ?_)
  refine bxA (h := fun b0 => ?_)
  refine wy asg ?_
  refine wy asg ?_
  refine nl (h := ?_)
  refine q_seq (h := ?_)
  refine sq (h := ?_)
  refine sq (h := ?_)
  refine rg (h := ?_)
  refine wy (by first | exact ldA | exact ldEA) ?_
  refine cl0 (hc := fun w hS => C_br_isTree t ha.tr w (hS.get rdz_)) (h := ?_)
  refine wy notB ?_
  refine nl (h := ?_)
  refine q_seq (h := ?_)
  refine cdF (h := ?_)
  refine skp (h := ?_)
  refine q_seq (h := ?_)
  refine sq (h := ?_)
  refine sq (h := ?_)
  refine rg (h := ?_)
  refine wy mv ?_
  refine wy lenS ?_
  refine wy ((Yd.fl (gtr) (by exact decide_eq_false (by omega)))) ?_
  refine wy mv ?_
  refine un (h := ?_)
  refine wy mv ?_
  refine un (h := ?_)
  refine wy mkf ?_
  refine un (h := ?_)
  refine clT (hc := C_ContainsSlip (A := A) (n := l.length) (c := c) (es := encSl l) (g := 57) inferInstance [] [.pointer (some ⟨b0, 0, none⟩)] [.blk b0 24 t.cells, .ro t.A 1 t.sl.length (enI t.sl)] (fun _ => false) (by omega) (fun k cs hk => by
    obtain ⟨x, hx, rfl⟩ : ∃ x, l[k]? = some x ∧ x.cells = cs := by
      unfold encSl at hk
      rw [List.getElem?_map, Option.map_eq_some_iff] at hk
      exact hk
    exact Tr.frame1 (T_br_open1 t ha.tr hc b0 x (ha.s x (List.mem_of_getElem? hx))))) (hs := (by repeat (first | exact Spl.nil | (apply Spl.cons; (repeat (first | exact At.here | apply At.there)))))) (h := fun _ _ => ?_)
  rw [no_any]
  refine wy (by first | exact pkT | exact pkF) ?_
  refine nl (h := ?_)
  refine q_seq (h := ?_)
  refine cdF (h := ?_)
  refine skp (h := ?_)
  refine q_seq (h := ?_)
  refine sq (h := ?_)
  refine rg (h := ?_)
  refine wy (by first | exact ldA | exact ldEA) ?_
  refine wy mv ?_
  refine cl (hc := fun w hS => C_br_agree t l d ha A c w (hS.get rdz_) (hS.get rdz_)) (h := fun x0 hx0 => ?_)
  refine wy mv ?_
  refine wy ex ?_
  refine wy ex ?_
  refine wy asg ?_
  refine wy asg ?_
  refine nl (h := ?_)
  refine q_seq (h := ?_)
  refine sq (h := ?_)
  refine sq (h := ?_)
  refine rg (h := ?_)
  refine wy mv ?_
  refine wy notB ?_
  refine nl (h := ?_)
  refine q_seq (h := ?_)
  refine cdF (h := ?_)
  refine skp (h := ?_)
  refine q_seq (h := ?_)
  refine sq (h := ?_)
  refine rg (h := ?_)
  refine wy mv ?_
  refine wy asg ?_
  refine wy asg ?_
  refine nl (h := ?_)
  refine q_seq (h := ?_)
  refine rtn (h := ?_)
  refine q_ret (hR := ?_)
  exact fun w hS => ⟨x0, hx0, rfl, hS.sub slz_⟩

abbrev Bo.val (b : Bo) : Value := .agg #[.int .i64 b.r, .int .i64 b.p, .int .i64 b.one, .int .i64 b.two]
def boK (t : Tre) (d : Dr) (k : Nat) : Bo := (boL t d).getD k ⟨0, 0, 0, 0⟩
theorem boTil_len_succ (t : Tre) (d : Dr) (k : Nat) : (boTil t d (k + 1)).length = (boTil t d k).length + szN t k := by rw [boTil_succ, List.length_append, boRow_len]
theorem boTil_pre (t : Tre) (d : Dr) {k m : Nat} (h : k ≤ m) : boTil t d k <+: boTil t d m := by
  induction m with
  | zero => rw [Nat.le_zero.1 h]; exact List.prefix_refl _
  | succ m ih =>
    by_cases e : k = m + 1
    · rw [e]; exact List.prefix_refl _
    · rw [boTil_succ]
      exact (ih (by omega)).trans (List.prefix_append _ _)
theorem bo_at (t : Tre) (d : Dr) {r p : Nat} (hr : r < t.R.toNat) (hp : p < szN t r) : (boL t d)[(boTil t d r).length + p]? = some (boV d r p) := by
  obtain ⟨s, hs⟩ := boTil_pre t d (k := r + 1) (m := t.R.toNat) hr
  unfold boL
  rw [← hs, boTil_succ, List.append_assoc, List.getElem?_append_right (by omega), Nat.add_sub_cancel_left, List.getElem?_append_left (by rw [boRow_len]; exact hp)]
  unfold boRow
  rw [List.getElem?_map, List.getElem?_range hp]; rfl
theorem bo_k (t : Tre) (d : Dr) {r p : Nat} (hr : r < t.R.toNat) (hp : p < szN t r) : boK t d ((boTil t d r).length + p) = boV d r p := by
  unfold boK
  rw [List.getD_eq_getElem?_getD, bo_at t d hr hp]; rfl
theorem bo_lt (t : Tre) (d : Dr) {r p : Nat} (hr : r < t.R.toNat) (hp : p < szN t r) : (boTil t d r).length + p < (boL t d).length := (List.getElem?_eq_some_iff.1 (bo_at t d hr hp)).1
theorem bo_get {t : Tre} {d : Dr} {k : Nat} (h : k < (boL t d).length) : (boL t d)[k]? = some (boK t d k) := by
  unfold boK
  rw [List.getD_eq_getElem?_getD, List.getElem?_eq_getElem h]; rfl
structure YM (Y : Type) where
  (k : Nat) (y : Y)
abbrev bmV (b : Bo) : Value := .agg #[.int .i64 b.r, .int .i64 b.p]
set_option maxRecDepth 100000 in
set_option maxHeartbeats 1000000 in
theorem It_matches (t : Tre) (d : Dr) (ht : TOk t) (hp : PlO t d.sl) (q : DwX) (x : WnX) (hx : WonA d.M x) :
    It Tryz.prog 34 (fun y => [.pointer (some ⟨q.b, 0, none⟩)] ++ [y] ++ []) (dwL t d.sl q x) (boL t d).length (fun _ (_ : Unit) => True) (fun k _ => [bmV (boK t d k), (boK t d k).val]) (fun _ _ => []) := by
  refine ⟨fun {Y} ψ J ψx Jx w0 w lb y0 h0 hst hround => ?_⟩
  have hR := ht.r
  have hle := tre_le ht
  have hpn := hp.n
  have hz0 := sz_zero ht
  refine enM (vs := [.pointer (some ⟨q.b, 0, none⟩), .func (.yield lb) #[] #[]]) Tryz.func34 Tryz.ntmps34 hst (h := ?_)
  refine sq (h := ?_)
  refine rg (h := ?_)
  refine wy mv ?_
  refine wy nck ?_
  refine wy (by first | exact fa | exact faE) ?_
  refine wy (by first | exact fa | exact faE) ?_
  refine wy (by first | exact ld | exact ldE) ?_
  refine wy mv ?_
  refine nl (h := ?_)
  refine q_seq (h := ?_)
  refine bk (h := ?_)
  refine lp (X := YM Y) (I := fun z => z.k ≤ t.R.toNat ∧ ψ (boTil t d z.k).length z.y) (le := fun z => [(0, .pointer (some ⟨q.b, 0, none⟩)), (1, .func (.yield lb) #[] #[]), (11, .int .i64 t.R), (12, .int .i64 z.k)]) (Le := fun z => dwL t d.sl q x ++ J (boTil t d z.k).length z.y) (μ := fun z => t.R.toNat - z.k) ⟨0, y0⟩ ⟨Nat.zero_le _, h0⟩ sbz_ (SubL.refl _) (fun z hz => ?_)
  obtain ⟨hk, hy⟩ := hz
  refine sq (h := ?_)
  refine rg (h := ?_)
  refine wy lss ?_
  refine nl (h := ?_)
  refine q_seq (h := ?_)
  refine sq (h := ?_)
  refine cd (by exact rfl) (fun h0 => ?_) (fun h0 => ?_)
  · skip
    have hkm : z.k < t.R.toNat := by have := of_decide_eq_true h0; omega
    have hsz := szN_le (t := t) (by omega) z.k
    have hsh : (t.sl.length : Int) / 2 ^ ((z.k : Int) + 1).toNat = ((szN t z.k : Nat) : Int) := by rw [len_sz ht (by omega), szN_eq (by omega)]
    refine skp (h := ?_)
    refine q_seq (h := ?_)
    refine sq (h := ?_)
    refine bk (h := ?_)
    refine sq (h := ?_)
    refine rg (h := ?_)
    refine wy mv ?_
    refine wy asg ?_
    refine WL.cut (by repeat (first | exact Cut.nil | apply Cut.hit | apply Cut.miss (by exact rfl))) ?_
    refine nl (h := ?_)
    refine q_seq (h := ?_)
    refine sq (h := ?_)
    refine rg (h := ?_)
    refine wy mv ?_
    refine wy nck ?_
    refine wy (by first | exact fa | exact faE) ?_
    refine wy (by first | exact fa | exact faE) ?_
    refine wy (by first | exact ld | exact ldE) ?_
    refine wy lenS ?_
    refine wy mv ?_
    refine wy addI ?_
    refine wy (shrE hsh) ?_
    refine wy mv ?_
    refine nl (h := ?_)
    refine q_seq (h := ?_)
    refine bk (h := ?_)
    refine lp (X := YM Y) (I := fun u => u.k ≤ szN t z.k ∧ ψ ((boTil t d z.k).length + u.k) u.y) (le := fun u => [(0, .pointer (some ⟨q.b, 0, none⟩)), (1, .func (.yield lb) #[] #[]), (4, .int .i64 z.k), (11, .int .i64 t.R), (12, .int .i64 z.k), (23, .int .i64 (szN t z.k : Nat)), (24, .int .i64 u.k)]) (Le := fun u => dwL t d.sl q x ++ J ((boTil t d z.k).length + u.k) u.y) (μ := fun u => szN t z.k - u.k) ⟨0, z.y⟩ ⟨Nat.zero_le _, hy⟩ sbz_ (SubL.refl _) (fun u hu => ?_)
    obtain ⟨huk, hu⟩ := hu
    refine sq (h := ?_)
    refine rg (h := ?_)
    refine wy lss ?_
    refine nl (h := ?_)
    refine q_seq (h := ?_)
    refine sq (h := ?_)
    refine cd (by exact rfl) (fun h1 => ?_) (fun h1 => ?_)
    · skip
      have hjl : u.k < szN t z.k := by have := of_decide_eq_true h1; omega
      have hs0 : ∀ s, s < 2 → z.k = 0 → 2 * u.k + s < d.sl.length := fun s hs e => by rw [e] at hjl; omega
      refine skp (h := ?_)
      refine q_seq (h := ?_)
      refine sq (h := ?_)
      refine bk (h := ?_)
      refine sq (h := ?_)
      refine rg (h := ?_)
      refine wy mv ?_
      refine wy asg ?_
      refine WL.cut (by repeat (first | exact Cut.nil | apply Cut.hit | apply Cut.miss (by exact rfl))) ?_
      refine nl (h := ?_)
      refine q_seq (h := ?_)
      refine sq (h := ?_)
      refine rg (h := ?_)
      refine wy mv ?_
      refine wy mv ?_
      refine wy bd ?_
      refine al (h := fun b0 => ?_)
      first | refine stA (h := ?_) | refine stEA (h := ?_)
      refine nl (h := ?_)
      refine q_seq (h := ?_)
      refine sq (h := ?_)
      refine rgD (by kernel_rfl) [(6, .blk b0 93 [.int .i64 z.k, .int .i64 u.k]), (9, .blk b0 93 [.int .i64 z.k, .int .i64 u.k]), (11, .blk b0 93 [.int .i64 z.k, .int .i64 u.k])] (by repeat (first | exact HS.nil | (apply HS.keep; (repeat (first | exact At.here | apply At.there))) | (apply HS.ro; (repeat (first | exact Rds.ro | exact Rds.own | apply Rds.there))))) (h := ?_)
      refine tk 0 (hy := mv) (h := ?_)
      refine tk 1 (hy := (by first | exact ldA | exact ldEA)) (h := ?_)
      refine tk 2 (hy := mv) (h := ?_)
      refine tk 3 (hy := mv) (h := ?_)
      refine tk 4 (hy := mv) (h := ?_)
      refine tk 5 (hy := (by first | exact ldA | exact ldEA)) (h := ?_)
      refine tk 7 (hy := mv) (h := ?_)
      refine tk 8 (hy := (by first | exact ldA | exact ldEA)) (h := ?_)
      refine one 6 (h := ?_)
      refine clT (hc := T_br_side t d q x hx z.k u.k 0 (by omega) (by omega) (by omega) (hs0 0 (by omega)) (by omega)) (h := fun _ _ => ?_)
      refine nx (h := ?_)
      refine one 9 (h := ?_)
      refine clT (hc := T_br_side t d q x hx z.k u.k 1 (by omega) (by omega) (by omega) (hs0 1 (by omega)) (by omega)) (h := fun _ _ => ?_)
      refine nx (h := ?_)
      refine tk 10 (hy := bd) (h := ?_)
      refine one 11 (h := ?_)
      refine yl (lb := lb) (Z := Bool × Y) (Φ := fun r => cond r.1 (ψ ((boTil t d z.k).length + u.k + 1) r.2) (ψx r.2)) (val := fun r => .bool r.1) (post := fun r => cond r.1 (dwL t d.sl q x ++ J ((boTil t d z.k).length + u.k + 1) r.2) (dwL t d.sl q x ++ Jx r.2)) (by exact rfl) (by repeat (first | exact Evs.nil | (apply Evs.cons; exact rfl))) rfl (fun w hS => ?_) (fun r hr => ?_)
      · have hround := hround ((boTil t d z.k).length + u.k) () u.y w (bo_lt t d hkm hjl) trivial hu
        simp only [bo_k t d hkm hjl] at hround
        obtain ⟨fn, tmps, asg, bo, hy, hR⟩ := hround (hS.sub slz_)
        refine ⟨fn, tmps, asg, bo, hy, hR.mono fun e w' he => ?_⟩
        rcases he with ⟨rfl, y, hy, hs⟩ | ⟨rfl, y, hy, hs⟩
        · exact ⟨(true, y), hy, rfl, hs⟩
        · exact ⟨(false, y), hy, rfl, hs⟩
      refine nx (h := ?_)
      refine tk 12 (hy := notB) (h := ?_)
      refine dn (h := ?_)
      refine q_seq (h := ?_)
      refine cd (by exact rfl) (fun h2 => ?_) (fun h2 => ?_)
      · skip
        obtain ⟨rb, ry⟩ := r
        obtain rfl : rb = false := by simpa using h2
        refine rtn (h := ?_)
        refine q_blk_ret (h := ?_)
        refine q_then_ret (h := ?_)
        refine q_then_ret (h := ?_)
        refine q_blk_ret (h := ?_)
        refine q_blk_ret (h := ?_)
        refine q_then_ret (h := ?_)
        refine q_then_ret (h := ?_)
        refine q_blk_ret (h := ?_)
        refine q_retM0 (hR := ?_)
        first
          | exact fun w hS => ⟨_, rfl, .inr ⟨ry, hr, hS⟩⟩
          | exact fun w hS => ⟨_, rfl, .inl ⟨z.y, by rw [hkm] at hy; exact hy, by rw [hkm] at hS; exact hS⟩⟩
      · skip
        obtain ⟨rb, ry⟩ := r
        obtain rfl : rb = true := by simpa using h2
        refine skp (h := ?_)
        refine q_blk_norm (h := ?_)
        refine q_seq (h := ?_)
        refine rg (h := ?_)
        refine wy addI ?_
        refine wy mv ?_
        refine nl (h := ?_)
        refine rn (x := u) ⟨u.k + 1, ry⟩ ⟨by dsimp only; omega, hr⟩ (by dsimp only; omega) sbz_ (SubL.refl _)
    · skip
      have hjm : u.k = szN t z.k := by have := of_decide_eq_false h1; omega
      refine et (h := ?_)
      refine q_then_exit (h := ?_)
      refine q_then_exit (h := ?_)
      refine q_blk_hit (h := ?_)
      refine q_blk_norm (h := ?_)
      refine q_seq (h := ?_)
      refine rg (h := ?_)
      refine wy addI ?_
      refine wy mv ?_
      refine nl (h := ?_)
      refine rn (x := z) ⟨z.k + 1, u.y⟩ ⟨by dsimp only; omega, by dsimp only; rw [boTil_len_succ]; exact hjm ▸ hu⟩ (by dsimp only; omega) sbz_ (by dsimp only; rw [boTil_len_succ, ← hjm]; exact SubL.refl _)
  · skip
    have hkm : z.k = t.R.toNat := by have := of_decide_eq_false h0; omega
    refine et (h := ?_)
    refine q_then_exit (h := ?_)
    refine q_then_exit (h := ?_)
    refine q_blk_hit (h := ?_)
    refine q_endM0 (hR := ?_)
    first
      | exact fun w hS => ⟨_, rfl, .inr ⟨ry, hr, hS⟩⟩
      | exact fun w hS => ⟨_, rfl, .inl ⟨z.y, by rw [hkm] at hy; exact hy, by rw [hkm] at hS; exact hS⟩⟩
end Go.Proofs.YtmlhnajgiopfgaaGreat

namespace Go.Proofs.YtmlhnajgiopfgaaGreat
open Go Go.RowKit

theorem bo_take {t : Tre} {d : Dr} {k : Nat} (h : k < (boL t d).length) : (boL t d).take (k + 1) = (boL t d).take k ++ [boK t d k] := by
  rw [List.take_add_one, bo_get h]; rfl
theorem bo_len {t : Tre} (ht : TOk t) (d : Dr) : (boL t d).length ≤ 80 := by
  have := ht.r
  have h1 := boTil_len (t := t) (by omega) d t.R.toNat
  unfold boL
  omega
abbrev OAC := Option Addr × Nat
set_option maxRecDepth 100000 in
set_option maxHeartbeats 1000000 in
theorem C_br_Bouts (t : Tre) (l : List Sl) (d : Dr) (ha : Agr t l d) (hc : t.sl.length ≤ t.c) (A : Option Addr) (c : Nat) (w : World) (h : Rd w t.A 1 t.sl.length (enI t.sl)) (hL : Rd w A 5 l.length (encSl l)) :
    CR Tryz.prog 24 [t.val, .slice A l.length c] w (fun _ : OAC => True) (fun x => .tuple #[.slice x.1 (boL t d).length x.2, .int .i64 0]) (fun x => [ownBo x.1 x.2 (boL t d)]) := by
  have hbl := bo_len ha.tr d
  refine ⟨enM Tryz.func24 Tryz.ntmps24 (((St.init w).share (e := .ro t.A 1 t.sl.length (enI t.sl)) h rfl rfl rfl).share (e := .ro A 5 l.length (encSl l)) hL rfl rfl rfl) (h := ?_)⟩
  refine sq (h := ?_)
  refine rg (h := ?_)
  refine bxA (h := fun b0 => ?_)
  refine wy asg ?_
  refine wy asg ?_
  refine nl (h := ?_)
  refine q_seq (h := ?_)
  refine sq (h := ?_)
  refine rg (h := ?_)
  refine wy (by first | exact ldA | exact ldEA) ?_
  refine wy mv ?_
  refine cl (hc := fun w hS => C_br_open t l d ha hc A c w (hS.get rdz_) (hS.get rdz_)) (h := fun x0 hx0 => ?_)
  refine wy mv ?_
  refine wy ex ?_
  refine wy ex ?_
  refine wy asg ?_
  refine wy asg ?_
  refine nl (h := ?_)
  refine q_seq (h := ?_)
  refine sq (h := ?_)
  refine sq (h := ?_)
  refine rg (h := ?_)
  refine wy mv ?_
  refine wy ((Yd.fl (neq) (by decide))) ?_
  refine nl (h := ?_)
  refine q_seq (h := ?_)
  refine cdF (h := ?_)
  refine skp (h := ?_)
  refine q_seq (h := ?_)
  refine sq (h := ?_)
  refine rg (h := ?_)
  refine al (h := fun b1 => ?_)
  refine WL.nilOwn 50 4 (h := ?_)
  refine nl (h := ?_)
  refine q_seq (h := ?_)
  refine sq (h := ?_)
  refine sq (h := ?_)
  refine rg (h := ?_)
  refine wy mv ?_
  refine wy mkf ?_
  refine nl (h := ?_)
  refine q_seq (h := ?_)
  refine bk (h := ?_)
  refine rf (f := 34) inferInstance (fun _ (_ : OAC) => True) (fun k z => [.blk b1 34 [.slice z.1 k z.2], .own z.1 z.2 50 4 k (encBo ((boL t d).take k))]) (fun _ => False) (fun _ => .skip) (fun _ => []) (none, 0) (It_matches t d ha.tr ha.o.1.p x0.1 x0.2 hx0) (by exact rfl) (fun _ _ => rfl) (by rfl) trivial slz_ (fun fn tmps lb rb k p z hk hφ hz => ?_) (fun rb z hz => ?_) (fun _ _ h => h.elim)
  · skip
    refine rg (h := ?_)
    refine al (h := fun b2 => ?_)
    first | refine stA (h := ?_) | refine stEA (h := ?_)
    refine nl (h := ?_)
    refine bgn (h := ?_)
    refine bk (h := ?_)
    refine rg (h := ?_)
    refine wy (by first | exact ld | exact ldE) ?_
    refine wy (by first | exact ldA | exact ldEA) ?_
    refine bs (h := fun b3 => ?_)
    refine ap (es := encBo ((boL t d).take k)) (m := k) (k := 1) (A := z.1) (c := z.2) (h := fun A1 c1 => ?_)
    rw [show encBo ((boL t d).take k) ++ [[Value.int .i64 (boK t d k).r, .int .i64 (boK t d k).p, .int .i64 (boK t d k).one, .int .i64 (boK t d k).two]] = encBo ((boL t d).take (k + 1)) by rw [bo_take hk, encBo_snoc]]
    first | refine st (h := ?_) | refine stE (h := ?_)
    refine nl (h := ?_)
    refine q_blk_norm (h := ?_)
    refine rdN (y := (A1, c1)) trivial (hs := slz_)
  refine q_blk_norm (h := ?_)
  refine q_seq (h := ?_)
  refine sq (h := ?_)
  refine rg (h := ?_)
  refine wy (by first | exact ld | exact ldE) ?_
  refine wy asg ?_
  refine wy asg ?_
  refine nl (h := ?_)
  refine q_seq (h := ?_)
  refine rtn (h := ?_)
  refine q_retM (hR := ?_)
  exact fun w hS => ⟨(z.1, z.2), trivial, rfl, by rw [List.take_length] at hS; exact hS.sub slz_⟩
def rdyB (d : Dr) (b : Bo) : Bool := decide (d.M b.r.toNat b.p.toNat = -2) && decide (0 ≤ min b.one b.two)
def rdTil (t : Tre) (d : Dr) (k : Nat) : List Bo := ((boL t d).take k).filter (rdyB d)
theorem rdTil_succ {t : Tre} {d : Dr} {k : Nat} (h : k < (boL t d).length) : rdTil t d (k + 1) = if rdyB d (boK t d k) = true then rdTil t d k ++ [boK t d k] else rdTil t d k := by
  unfold rdTil
  rw [bo_take h, List.filter_append]
  split
  · next e => rw [List.filter_cons_of_pos e, List.filter_nil]
  · next e => rw [List.filter_cons_of_neg e, List.filter_nil, List.append_nil]
theorem boK_mem {t : Tre} {d : Dr} {k : Nat} (h : k < (boL t d).length) : ∃ r p : Nat, r < t.R.toNat ∧ p < szN t r ∧ boK t d k = boV d r p := by
  have := List.mem_of_getElem? (bo_get h)
  exact boTil_mem this
set_option maxRecDepth 100000 in
set_option maxHeartbeats 1000000 in
theorem C_br_Ready (t : Tre) (l : List Sl) (d : Dr) (ha : Agr t l d) (hc : t.sl.length ≤ t.c) (A : Option Addr) (c : Nat) (w : World) (h : Rd w t.A 1 t.sl.length (enI t.sl)) (hL : Rd w A 5 l.length (encSl l)) :
    CR Tryz.prog 12 [t.val, .slice A l.length c] w (fun _ : OAC => True) (fun x => .tuple #[.slice x.1 ((boL t d).filter (rdyB d)).length x.2, .int .i64 0]) (fun x => [ownBo x.1 x.2 ((boL t d).filter (rdyB d))]) := by
  have hbl := bo_len ha.tr d
  refine ⟨enM Tryz.func12 Tryz.ntmps12 (((St.init w).share (e := .ro t.A 1 t.sl.length (enI t.sl)) h rfl rfl rfl).share (e := .ro A 5 l.length (encSl l)) hL rfl rfl rfl) (h := ?_)⟩
  refine sq (h := ?_)
  refine rg (h := ?_)
  refine bxA (h := fun b0 => ?_)
  refine wy asg ?_
  refine wy asg ?_
  refine nl (h := ?_)
  refine q_seq (h := ?_)
  refine sq (h := ?_)
  refine rg (h := ?_)
  refine wy (by first | exact ldA | exact ldEA) ?_
  refine wy mv ?_
  refine cl (hc := fun w hS => C_br_open t l d ha hc A c w (hS.get rdz_) (hS.get rdz_)) (h := fun x0 hx0 => ?_)
  refine wy mv ?_
  refine wy ex ?_
  refine wy ex ?_
  refine al (h := fun b1 => ?_)
  first | refine st (h := ?_) | refine stE (h := ?_)
  refine wy asg ?_
  refine nl (h := ?_)
  refine q_seq (h := ?_)
  refine sq (h := ?_)
  refine sq (h := ?_)
  refine rg (h := ?_)
  refine wy mv ?_
  refine wy ((Yd.fl (neq) (by decide))) ?_
  refine nl (h := ?_)
  refine q_seq (h := ?_)
  refine cdF (h := ?_)
  refine skp (h := ?_)
  refine q_seq (h := ?_)
  refine sq (h := ?_)
  refine rg (h := ?_)
  refine al (h := fun b2 => ?_)
  refine WL.nilOwn 50 4 (h := ?_)
  refine nl (h := ?_)
  refine q_seq (h := ?_)
  refine sq (h := ?_)
  refine sq (h := ?_)
  refine rg (h := ?_)
  refine wy (by first | exact ld | exact ldE) ?_
  refine wy mkf ?_
  refine nl (h := ?_)
  refine q_seq (h := ?_)
  refine bk (h := ?_)
  refine rf (f := 34) inferInstance (fun _ (_ : OAC) => True) (fun k z => [.blk b2 34 [.slice z.1 (rdTil t d k).length z.2], .own z.1 z.2 50 4 (rdTil t d k).length (encBo (rdTil t d k)), .blk b1 88 [.pointer (some ⟨x0.1.b, 0, none⟩)]]) (fun _ => False) (fun _ => .skip) (fun _ => []) (none, 0) (It_matches t d ha.tr ha.o.1.p x0.1 x0.2 hx0) (by exact rfl) (fun _ _ => rfl) (by rfl) trivial slz_ (fun fn tmps lb rb k p z hk hφ hz => ?_) (fun rb z hz => ?_) (fun _ _ h => h.elim)
  · skip
    obtain ⟨r, p2, hr, hp2, hbe⟩ := boK_mem hk
    obtain ⟨lv, ls, hlv, hls, hlt, hlf⟩ := hx0.look r p2
    have hbk : [Fl.i (boK t d k).r, .i (boK t d k).p] = mK r p2 := by rw [hbe]; rfl
    have hrd : rdyB d (boK t d k) = (!ls && decide (0 ≤ min (boK t d k).one (boK t d k).two)) := by
      unfold rdyB
      rw [show d.M (boK t d k).r.toNat (boK t d k).p.toNat = d.M r p2 by rw [hbe]; rfl]
      cases ls with
      | true => rw [decide_eq_false (hlt rfl).2]; rfl
      | false => rw [decide_eq_true (hlf rfl)]; rfl
    have hrl : (rdTil t d k).length ≤ 80 := by
      have h9 := List.length_filter_le (rdyB d) ((boL t d).take k)
      rw [List.length_take] at h9
      unfold rdTil
      omega
    refine sq (h := ?_)
    refine rg (h := ?_)
    refine al (h := fun b3 => ?_)
    first | refine stA (h := ?_) | refine stEA (h := ?_)
    refine nl (h := ?_)
    refine q_seq (h := ?_)
    refine rg (h := ?_)
    refine al (h := fun b4 => ?_)
    first | refine stA (h := ?_) | refine stEA (h := ?_)
    refine nl (h := ?_)
    refine bgn (h := ?_)
    refine bk (h := ?_)
    refine sq (h := ?_)
    refine rgD (by kernel_rfl) [(1000000, .blk b1 88 [.pointer (some ⟨x0.1.b, 0, none⟩)]), (1000000, .blk x0.1.b 97 (dwC t d.sl.length x0.1)), (1000000, .obj x0.1.mb (.map x0.2.es x0.2.c)), (1000000, .blk b3 93 [.int .i64 (boK t d k).r, .int .i64 (boK t d k).p])] (by repeat (first | exact HS.nil | (apply HS.keep; (repeat (first | exact At.here | apply At.there))) | (apply HS.ro; (repeat (first | exact Rds.ro | exact Rds.own | apply Rds.there))))) (h := ?_)
    refine tk 0 (hy := (by first | exact ld | exact ldE)) (h := ?_)
    refine tk 1 (hy := nck) (h := ?_)
    refine tk 2 (hy := (by first | exact fa | exact faE)) (h := ?_)
    refine tk 3 (hy := (by first | exact ld | exact ldE)) (h := ?_)
    refine tk 4 (hy := (by first | exact ldA | exact ldEA)) (h := ?_)
    refine tk 5 (hy := lkO (b := x0.1.mb) (c := x0.2.c) (k := [Fl.i (boK t d k).r, .i (boK t d k).p]) (v := .int .i64 lv) (s := ls) (hm := hx0.s.m) (hs := hx0.s.s) (hv := by rw [hbk]; exact hlv) (hb := by rw [hbk]; exact hls)) (h := ?_)
    refine tk 6 (hy := mv) (h := ?_)
    refine tk 7 (hy := ex) (h := ?_)
    refine tk 8 (hy := ex) (h := ?_)
    refine tk 9 (hy := asg) (h := ?_)
    refine tk 10 (hy := asg) (h := ?_)
    refine dn (h := ?_)
    refine q_seq (h := ?_)
    refine sq (h := ?_)
    refine rg (h := ?_)
    refine wy mv ?_
    refine wy notB ?_
    refine wy mv ?_
    apply brAnd 7 37 44 (by exact rfl)
    · intro hb1
      refine un (h := ?_)
      refine wy (by first | exact fa | exact faE) ?_
      refine un (h := ?_)
      refine wy (by first | exact ld | exact ldE) ?_
      refine un (h := ?_)
      refine wy (by first | exact fa | exact faE) ?_
      refine un (h := ?_)
      refine wy (by first | exact ld | exact ldE) ?_
      refine un (h := ?_)
      refine wy minI ?_
      refine un (h := ?_)
      refine wy geq ?_
      refine wy (by first | exact pkT | exact pkF) ?_
      exact mg (by repeat (first | exact trivial | refine ⟨rfl, ?_⟩ | refine ⟨by rw [hb1]; rfl, ?_⟩)) slz_
    · intro hb1
      repeat (first | refine un (h := ?_) | refine sk (h := ?_) | refine WL.y (hy := pkF) (h := ?_) | refine WL.y (hy := pkT) (h := ?_))
      exact mg (by repeat (first | exact trivial | refine ⟨rfl, ?_⟩ | refine ⟨by rw [hb1]; rfl, ?_⟩)) slz_
    refine nl (h := ?_)
    refine q_seq (h := ?_)
    refine cd (by exact rfl) (fun h2 => ?_) (fun h2 => ?_)
    · skip
      have h0' : (!ls && decide (0 ≤ min (boK t d k).one (boK t d k).two)) = true := h2
      have hyes : rdTil t d (k + 1) = rdTil t d k ++ [boK t d k] := by
        rw [rdTil_succ hk, if_pos]
        rw [hrd]; exact h0'
      refine rg (h := ?_)
      refine wy (by first | exact ld | exact ldE) ?_
      refine wy (by first | exact ldA | exact ldEA) ?_
      refine bs (h := fun b5 => ?_)
      refine ap (es := encBo (rdTil t d k)) (m := (rdTil t d k).length) (k := 1) (A := z.1) (c := z.2) (h := fun A1 c1 => ?_)
      rw [show encBo (rdTil t d k) ++ [[Value.int .i64 (boK t d k).r, .int .i64 (boK t d k).p, .int .i64 (boK t d k).one, .int .i64 (boK t d k).two]] = encBo (rdTil t d (k + 1)) by rw [hyes, encBo_snoc], show (rdTil t d k).length + 1 = (rdTil t d (k + 1)).length by rw [hyes, List.length_append]; rfl]
      first | refine st (h := ?_) | refine stE (h := ?_)
      refine nl (h := ?_)
      refine q_blk_norm (h := ?_)
      first
        | (have e9 := hyes; refine rdN (y := (A1, c1)) trivial (hs := slz_))
        | (have e9 := hnot; refine rdN (y := z) trivial (hs := (by rw [hnot]; exact slz_)))
    · skip
      have h0' : (!ls && decide (0 ≤ min (boK t d k).one (boK t d k).two)) = false := h2
      have hnot : rdTil t d (k + 1) = rdTil t d k := by
        rw [rdTil_succ hk, if_neg]
        rw [hrd, h0']; decide
      refine skp (h := ?_)
      refine q_blk_norm (h := ?_)
      first
        | (have e9 := hyes; refine rdN (y := (A1, c1)) trivial (hs := slz_))
        | (have e9 := hnot; refine rdN (y := z) trivial (hs := (by rw [hnot]; exact slz_)))
  refine q_blk_norm (h := ?_)
  refine q_seq (h := ?_)
  refine sq (h := ?_)
  refine rg (h := ?_)
  refine wy (by first | exact ld | exact ldE) ?_
  refine wy asg ?_
  refine wy asg ?_
  refine nl (h := ?_)
  refine q_seq (h := ?_)
  refine rtn (h := ?_)
  refine q_retM (hR := ?_)
  exact fun w hS => ⟨(z.1, z.2), trivial, by rw [rdTil, List.take_length]; rfl, by rw [rdTil, List.take_length] at hS; exact hS.sub slz_⟩
set_option maxRecDepth 100000 in
theorem C_br_at (t : Tre) (l : List Sl) (d : Dr) (ha : Agr t l d) (hc : t.sl.length ≤ t.c) (A : Option Addr) (c : Nat) (r p : Nat) (hr : r < t.R.toNat) (hp : p < szN t r) (w : World) (h : Rd w t.A 1 t.sl.length (enI t.sl)) (hL : Rd w A 5 l.length (encSl l)) :
    CR Tryz.prog 48 [t.val, .slice A l.length c, .int .i64 r, .int .i64 p] w (fun x : DwX × WnX => WonA d.M x.2) (fun x => .tuple #[.pointer (some ⟨x.1.b, 0, none⟩), .agg #[.int .i64 r, .int .i64 p], .int .i64 0]) (fun x => dwL t d.sl x.1 x.2) := by
  refine ⟨en Tryz.func48 Tryz.ntmps48 (((St.init w).share (e := .ro t.A 1 t.sl.length (enI t.sl)) h rfl rfl rfl).share (e := .ro A 5 l.length (encSl l)) hL rfl rfl rfl) (h := fun F => ?_)⟩
  refine sq (h := ?_)
  refine rg (h := ?_)
  refine bxA (h := fun b0 => ?_)
  refine wy asg ?_
  refine al (h := fun b1 => ?_)
  refine wy asg ?_
  refine nl (h := ?_)
  refine q_seq (h := ?_)
  refine sq (h := ?_)
  refine rg (h := ?_)
  refine wy (by first | exact ldA | exact ldEA) ?_
  refine wy mv ?_
  refine cl (hc := fun w hS => C_br_open t l d ha hc A c w (hS.get rdz_) (hS.get rdz_)) (h := fun x0 hx0 => ?_)
  refine wy mv ?_
  refine wy ex ?_
  refine wy ex ?_
  refine wy asg ?_
  refine wy asg ?_
  refine nl (h := ?_)
  refine q_seq (h := ?_)
  refine sq (h := ?_)
  refine rg (h := ?_)
  refine wy mv ?_
  refine wy mv ?_
  refine wy bd ?_
  refine al (h := fun b2 => ?_)
  first | refine stA (h := ?_) | refine stEA (h := ?_)
  refine nl (h := ?_)
  refine q_seq (h := ?_)
  refine sq (h := ?_)
  refine sq (h := ?_)
  refine rg (h := ?_)
  refine wy mv ?_
  refine wy ((Yd.tr (eql) (by decide))) ?_
  refine wy mv ?_
  refine un (h := ?_)
  refine wy (by first | exact ldA | exact ldEA) ?_
  refine un (h := ?_)
  refine wy (by first | exact ldA | exact ldEA) ?_
  refine un (h := ?_)
  refine cl0 (hc := fun w hS => C_br_in t ha.tr r p (match_ok hr hp) w) (h := ?_)
  refine un (h := ?_)
  refine wy notB ?_
  refine wy (by first | exact pkT | exact pkF) ?_
  refine nl (h := ?_)
  refine q_seq (h := ?_)
  refine cdF (h := ?_)
  refine skp (h := ?_)
  refine q_seq (h := ?_)
  refine sq (h := ?_)
  refine rgD (by kernel_rfl) [(1000000, .blk b2 93 [.int .i64 r, .int .i64 p])] (by repeat (first | exact HS.nil | (apply HS.keep; (repeat (first | exact At.here | apply At.there))) | (apply HS.ro; (repeat (first | exact Rds.ro | exact Rds.own | apply Rds.there))))) (h := ?_)
  refine tk 0 (hy := mv) (h := ?_)
  refine tk 1 (hy := (by first | exact ldA | exact ldEA)) (h := ?_)
  refine tk 2 (hy := mv) (h := ?_)
  refine tk 3 (hy := asg) (h := ?_)
  refine one 4 (h := ?_)
  first | refine stA (h := ?_) | refine stEA (h := ?_)
  refine nx (h := ?_)
  refine tk 5 (hy := asg) (h := ?_)
  refine dn (h := ?_)
  refine q_seq (h := ?_)
  refine rtn (h := ?_)
  refine q_ret (hR := ?_)
  exact fun w hS => ⟨x0, hx0, rfl, hS.sub slz_⟩
set_option maxRecDepth 100000 in
theorem C_br_Winner (t : Tre) (l : List Sl) (d : Dr) (ha : Agr t l d) (hc : t.sl.length ≤ t.c) (A : Option Addr) (c : Nat) (r p : Nat) (hr : r < t.R.toNat) (hp : p < szN t r) (w : World) (h : Rd w t.A 1 t.sl.length (enI t.sl)) (hL : Rd w A 5 l.length (encSl l)) :
    C0 Tryz.prog 28 [t.val, .slice A l.length c, .int .i64 r, .int .i64 p] w (.tuple #[.int .i64 (winN d r p), .int .i64 (winE d r p)]) := by
  refine ⟨en Tryz.func28 Tryz.ntmps28 (((St.init w).share (e := .ro t.A 1 t.sl.length (enI t.sl)) h rfl rfl rfl).share (e := .ro A 5 l.length (encSl l)) hL rfl rfl rfl) (h := fun F => ?_)⟩
  refine sq (h := ?_)
  refine rg (h := ?_)
  refine bxA (h := fun b0 => ?_)
  refine wy asg ?_
  refine wy asg ?_
  refine nl (h := ?_)
  refine q_seq (h := ?_)
  refine sq (h := ?_)
  refine rg (h := ?_)
  refine wy (by first | exact ldA | exact ldEA) ?_
  refine wy mv ?_
  refine wy mv ?_
  refine wy mv ?_
  refine cl (hc := fun w hS => C_br_at t l d ha hc A c r p hr hp w (hS.get rdz_) (hS.get rdz_)) (h := fun x0 hx0 => ?_)
  refine wy mv ?_
  refine wy ex ?_
  refine wy ex ?_
  refine wy ex ?_
  refine al (h := fun b1 => ?_)
  refine wy asg ?_
  first | refine stA (h := ?_) | refine stEA (h := ?_)
  refine wy asg ?_
  refine nl (h := ?_)
  refine q_seq (h := ?_)
  refine sq (h := ?_)
  refine sq (h := ?_)
  refine rg (h := ?_)
  refine wy mv ?_
  refine wy ((Yd.fl (neq) (by decide))) ?_
  refine nl (h := ?_)
  refine q_seq (h := ?_)
  refine cdF (h := ?_)
  refine skp (h := ?_)
  refine q_seq (h := ?_)
  refine sq (h := ?_)
  obtain ⟨lv, ls, hlv, hls, hlt, hlf⟩ := hx0.look r p
  refine rgD (by kernel_rfl) [(1000000, .blk x0.1.b 97 (dwC t d.sl.length x0.1)), (1000000, .obj x0.1.mb (.map x0.2.es x0.2.c)), (1000000, .blk b1 93 [.int .i64 r, .int .i64 p])] (by repeat (first | exact HS.nil | (apply HS.keep; (repeat (first | exact At.here | apply At.there))) | (apply HS.ro; (repeat (first | exact Rds.ro | exact Rds.own | apply Rds.there))))) (h := ?_)
  refine tk 0 (hy := mv) (h := ?_)
  refine tk 1 (hy := nck) (h := ?_)
  refine tk 2 (hy := (by first | exact fa | exact faE)) (h := ?_)
  refine tk 3 (hy := (by first | exact ld | exact ldE)) (h := ?_)
  refine tk 4 (hy := (by first | exact ldA | exact ldEA)) (h := ?_)
  refine tk 5 (hy := lkO (b := x0.1.mb) (c := x0.2.c) (k := mK r p) (v := .int .i64 lv) (s := ls) (hm := hx0.s.m) (hs := hx0.s.s) (hv := hlv) (hb := hls)) (h := ?_)
  refine tk 6 (hy := mv) (h := ?_)
  refine tk 7 (hy := ex) (h := ?_)
  refine tk 8 (hy := ex) (h := ?_)
  refine tk 9 (hy := asg) (h := ?_)
  refine tk 10 (hy := asg) (h := ?_)
  refine dn (h := ?_)
  refine q_seq (h := ?_)
  refine sq (h := ?_)
  refine sq (h := ?_)
  refine rg (h := ?_)
  refine wy mv ?_
  refine wy notB ?_
  refine nl (h := ?_)
  refine q_seq (h := ?_)
  refine cd (by exact rfl) (fun h1 => ?_) (fun h1 => ?_)
  · skip
    have hn : d.M r p = -2 := hlf (by simpa using h1)
    refine sq (h := ?_)
    refine rg (h := ?_)
    refine wy asg ?_
    refine wy asg ?_
    refine nl (h := ?_)
    refine q_seq (h := ?_)
    refine rtn (h := ?_)
    refine q_then_ret (h := ?_)
    refine q_ret (hR := ?_)
    first
      | exact fun w hS => ⟨by rw [winN, winE, if_pos hn, if_pos hn]; rfl, hS.sub .nil⟩
      | exact fun w hS => ⟨by rw [winN, winE, if_neg hy.2, if_neg hy.2, ← hy.1]; rfl, hS.sub .nil⟩
  · skip
    have hy : lv = d.M r p ∧ d.M r p ≠ -2 := hlt (by simpa using h1)
    refine skp (h := ?_)
    refine q_seq (h := ?_)
    refine sq (h := ?_)
    refine rg (h := ?_)
    refine wy mv ?_
    refine wy asg ?_
    refine wy asg ?_
    refine nl (h := ?_)
    refine q_seq (h := ?_)
    refine rtn (h := ?_)
    refine q_ret (hR := ?_)
    first
      | exact fun w hS => ⟨by rw [winN, winE, if_pos hn, if_pos hn]; rfl, hS.sub .nil⟩
      | exact fun w hS => ⟨by rw [winN, winE, if_neg hy.2, if_neg hy.2, ← hy.1]; rfl, hS.sub .nil⟩
set_option maxRecDepth 100000 in
theorem C_br_Left (t : Tre) (l : List Sl) (d : Dr) (ha : Agr t l d) (N : Nat) (hN : ∀ x, WonA d.M x → x.kv.length = N) (hN1 : N ≤ 1000) (hc : t.sl.length ≤ t.c) (A : Option Addr) (c : Nat) (w : World) (h : Rd w t.A 1 t.sl.length (enI t.sl)) (hL : Rd w A 5 l.length (encSl l)) :
    C0 Tryz.prog 18 [t.val, .slice A l.length c] w (.tuple #[.int .i64 (t.sl.length - 1 - (N : Int)), .int .i64 0]) := by
  have hle := tre_le ha.tr
  refine ⟨en Tryz.func18 Tryz.ntmps18 (((St.init w).share (e := .ro t.A 1 t.sl.length (enI t.sl)) h rfl rfl rfl).share (e := .ro A 5 l.length (encSl l)) hL rfl rfl rfl) (h := fun F => ?_)⟩
  refine sq (h := ?_)
  refine rg (h := ?_)
  refine bxA (h := fun b0 => ?_)
  refine wy asg ?_
  refine wy asg ?_
  refine nl (h := ?_)
  refine q_seq (h := ?_)
  refine sq (h := ?_)
  refine rg (h := ?_)
  refine wy (by first | exact ldA | exact ldEA) ?_
  refine wy mv ?_
  refine cl (hc := fun w hS => C_br_open t l d ha hc A c w (hS.get rdz_) (hS.get rdz_)) (h := fun x0 hx0 => ?_)
  have hkl : x0.2.es.size = N := (mapIs_len hx0.s.m).trans (hN _ hx0)
  refine wy mv ?_
  refine wy ex ?_
  refine wy ex ?_
  refine wy asg ?_
  refine wy asg ?_
  refine nl (h := ?_)
  refine q_seq (h := ?_)
  refine sq (h := ?_)
  refine sq (h := ?_)
  refine rg (h := ?_)
  refine wy mv ?_
  refine wy ((Yd.fl (neq) (by decide))) ?_
  refine nl (h := ?_)
  refine q_seq (h := ?_)
  refine cdF (h := ?_)
  refine skp (h := ?_)
  refine q_seq (h := ?_)
  refine sq (h := ?_)
  refine rgD (by kernel_rfl) [(1000000, .blk x0.1.b 97 (dwC t d.sl.length x0.1)), (1000000, .obj x0.1.mb (.map x0.2.es x0.2.c))] (by repeat (first | exact HS.nil | (apply HS.keep; (repeat (first | exact At.here | apply At.there))) | (apply HS.ro; (repeat (first | exact Rds.ro | exact Rds.own | apply Rds.there))))) (h := ?_)
  refine tk 0 (hy := mv) (h := ?_)
  refine tk 1 (hy := nck) (h := ?_)
  refine tk 2 (hy := (by first | exact fa | exact faE)) (h := ?_)
  refine tk 3 (hy := (by first | exact fa | exact faE)) (h := ?_)
  refine tk 4 (hy := (by first | exact ld | exact ldE)) (h := ?_)
  refine tk 5 (hy := lenS) (h := ?_)
  refine tk 6 (hy := subI) (h := ?_)
  refine tk 7 (hy := mv) (h := ?_)
  refine tk 8 (hy := nck) (h := ?_)
  refine tk 9 (hy := (by first | exact fa | exact faE)) (h := ?_)
  refine tk 10 (hy := (by first | exact ld | exact ldE)) (h := ?_)
  refine tk 11 (hy := (hkl ▸ lenMp (b := x0.1.mb) (es := x0.2.es) (c := x0.2.c))) (h := ?_)
  refine tk 12 (hy := subI (hb := by omega)) (h := ?_)
  refine tk 13 (hy := asg) (h := ?_)
  refine tk 14 (hy := asg) (h := ?_)
  refine dn (h := ?_)
  refine q_seq (h := ?_)
  refine rtn (h := ?_)
  refine q_ret (hR := ?_)
  exact fun w hS => ⟨rfl, hS.sub .nil⟩
end Go.Proofs.YtmlhnajgiopfgaaGreat

namespace Go.Proofs.YtmlhnajgiopfgaaGreat
open Go Go.RowKit

def InP (p : Pl) (n : Int) : Prop := n = -1 ∨ (0 ≤ n ∧ n < p.ps.length)
theorem psAt_eq {p : Pl} {n : Int} (h : 0 ≤ n ∧ n < p.ps.length) : p.ps[n.toNat]? = some (psAt p n) := by
  unfold psAt
  rw [List.getElem?_eq_getElem (by omega)]; rfl
set_option maxHeartbeats 1000000 in
theorem C_apart (p : Pl) (a : PA) (x y : Int) (hx : InP p x) (hy : InP p y) (w : World) (h : PRd w p a) : C0 Tryz.prog 105 [p.val a, .int .i64 x, .int .i64 y] w (.bool (apartV p x y)) := by
  obtain ⟨hp, hl, hpn, hln, hpc⟩ := h
  refine ⟨en Tryz.func105 Tryz.ntmps105 (((St.init w).share (e := .ro a.pA 3 p.ps.length (encPs p.ps)) hp rfl rfl rfl).share (e := .ro a.lA 1 p.lots.length (enI p.lots)) hl rfl rfl rfl) (h := fun F => ?_)⟩
  refine sq (h := ?_)
  refine rg (h := ?_)
  refine bxA (h := fun b0 => ?_)
  refine wy asg ?_
  refine nl (h := ?_)
  refine q_seq (h := ?_)
  refine sq (h := ?_)
  refine sq (h := ?_)
  refine rg (h := ?_)
  refine wy mv ?_
  refine wy eql ?_
  refine wy mv ?_
  apply brOr 3 11 14 (by exact rfl)
  · intro hb0
    refine un (h := ?_)
    refine wy mv ?_
    refine un (h := ?_)
    refine wy eql ?_
    refine wy (by first | exact pkT | exact pkF) ?_
    exact mg (by repeat (first | exact trivial | refine ⟨rfl, ?_⟩ | refine ⟨by rw [hb0]; rfl, ?_⟩)) slz_
  · intro hb0
    repeat (first | refine un (h := ?_) | refine sk (h := ?_) | refine WL.y (hy := pkF) (h := ?_) | refine WL.y (hy := pkT) (h := ?_))
    exact mg (by repeat (first | exact trivial | refine ⟨rfl, ?_⟩ | refine ⟨by rw [hb0]; rfl, ?_⟩)) slz_
  refine nl (h := ?_)
  refine q_seq (h := ?_)
  refine cd (by exact rfl) (fun h1 => ?_) (fun h1 => ?_)
  · skip
    have hE : apartV p x y = !decide (x = y) := by rw [apartV, h1]; rfl
    refine sq (h := ?_)
    refine rg (h := ?_)
    refine wy mv ?_
    refine wy mv ?_
    refine wy neq ?_
    refine wy asg ?_
    refine nl (h := ?_)
    refine q_seq (h := ?_)
    refine rtn (h := ?_)
    refine q_then_ret (h := ?_)
    refine q_ret (hR := ?_)
    rw [hE]
    exact fun w hS => ⟨rfl, hS.sub slz_⟩
  · skip
    have hE : apartV p x y = ((!decide ((psAt p x).nation = (psAt p y).nation) || decide ((psAt p x).nation = 0)) && !((psAt p x).qual && (psAt p y).qual)) := by rw [apartV, h1]; rfl
    obtain ⟨hx1, hy1⟩ : (0 ≤ x ∧ x < p.ps.length) ∧ (0 ≤ y ∧ y < p.ps.length) := by
      simp only [Bool.or_eq_false_iff, decide_eq_false_iff_not] at h1
      rcases hx with h | h <;> rcases hy with h' | h' <;> first | exact absurd h h1.1 | exact absurd h' h1.2 | exact ⟨h, h'⟩
    have hxe := encPs_at (psAt_eq hx1)
    have hye := encPs_at (psAt_eq hy1)
    refine skp (h := ?_)
    refine q_seq (h := ?_)
    refine ct (X := Nat × Nat) (fun _ => True) (fun u => [(3, .pointer (some ⟨b0, 0, none⟩)), (7, .pointer (some ⟨u.1, 0, none⟩)), (8, .pointer (some ⟨u.2, 0, none⟩))]) (fun u => .blk u.1 109 (psAt p x).enc :: .blk u.2 109 (psAt p y).enc :: plL p a b0) (h1 := ?_) (h2 := ?_)
    · skip
      refine rgD0 (by kernel_rfl) (h := ?_)
      refine tk 0 (hy := (by first | exact fa | exact faE)) (h := ?_)
      refine tk 1 (hy := (by first | exact ld | exact ldE)) (h := ?_)
      refine tk 2 (hy := mv) (h := ?_)
      refine tk 3 (hy := ix (A := a.pA) (m := p.ps.length)) (h := ?_)
      refine tk 4 (hy := ldEA (A := a.pA) (hk := hxe)) (h := ?_)
      refine tk 5 (hy := (by first | exact fa | exact faE)) (h := ?_)
      refine tk 6 (hy := (by first | exact ld | exact ldE)) (h := ?_)
      refine tk 7 (hy := mv) (h := ?_)
      refine tk 8 (hy := ix (A := a.pA) (m := p.ps.length)) (h := ?_)
      refine tk 9 (hy := ldEA (A := a.pA) (hk := hye)) (h := ?_)
      refine two 10 11 (h1 := ?_) (h2 := ?_)
      · skip
        refine al (h := fun b1 => ?_)
        refine nx (h := ?_)
        refine one 11 (h := ?_)
        refine al (h := fun b2 => ?_)
        refine nx (h := ?_)
        refine one 12 (h := ?_)
        first | refine stA (h := ?_) | refine stEA (h := ?_)
        refine nx (h := ?_)
        refine one 13 (h := ?_)
        first | refine stA (h := ?_) | refine stEA (h := ?_)
        refine nx (h := ?_)
        refine dn (h := ?_)
        exact ctn (_, _) trivial sbz_ slz_
      · skip
        refine al (h := fun b3 => ?_)
        refine nx (h := ?_)
        refine one 10 (h := ?_)
        refine al (h := fun b4 => ?_)
        refine nx (h := ?_)
        refine one 12 (h := ?_)
        first | refine stA (h := ?_) | refine stEA (h := ?_)
        refine nx (h := ?_)
        refine one 13 (h := ?_)
        first | refine stA (h := ?_) | refine stEA (h := ?_)
        refine nx (h := ?_)
        refine dn (h := ?_)
        exact ctn (_, _) trivial sbz_ slz_
    rintro ⟨u1, u2⟩ -
    dsimp only
    refine sq (h := ?_)
    refine rg (h := ?_)
    refine wy (by first | exact fa | exact faE) ?_
    refine wy (by first | exact ld | exact ldE) ?_
    refine wy (by first | exact fa | exact faE) ?_
    refine wy (by first | exact ld | exact ldE) ?_
    refine wy neq ?_
    refine wy mv ?_
    apply brOr 4 33 37 (by exact rfl)
    · intro hb2
      refine un (h := ?_)
      refine wy (by first | exact fa | exact faE) ?_
      refine un (h := ?_)
      refine wy (by first | exact ld | exact ldE) ?_
      refine un (h := ?_)
      refine wy eql ?_
      refine wy (by first | exact pkT | exact pkF) ?_
      exact mg (by repeat (first | exact trivial | refine ⟨rfl, ?_⟩ | refine ⟨by rw [hb2]; rfl, ?_⟩)) slz_
    · intro hb2
      repeat (first | refine un (h := ?_) | refine sk (h := ?_) | refine WL.y (hy := pkF) (h := ?_) | refine WL.y (hy := pkT) (h := ?_))
      exact mg (by repeat (first | exact trivial | refine ⟨rfl, ?_⟩ | refine ⟨by rw [hb2]; rfl, ?_⟩)) slz_
    refine wy mv ?_
    apply brAnd 8 38 46 (by exact rfl)
    · intro hb3
      refine un (h := ?_)
      refine wy (by first | exact fa | exact faE) ?_
      refine un (h := ?_)
      refine wy (by first | exact ld | exact ldE) ?_
      refine un (h := ?_)
      refine wy mv ?_
      apply brAnd 3 41 44 (by exact rfl)
      · intro hb4
        refine un (h := ?_)
        refine wy (by first | exact fa | exact faE) ?_
        refine un (h := ?_)
        refine wy (by first | exact ld | exact ldE) ?_
        refine un (h := ?_)
        refine wy (by first | exact pkT | exact pkF) ?_
        exact mg (by repeat (first | exact trivial | refine ⟨rfl, ?_⟩ | refine ⟨by rw [hb4]; rfl, ?_⟩ | refine ⟨by rw [hb3]; rfl, ?_⟩)) slz_
      · intro hb4
        repeat (first | refine un (h := ?_) | refine sk (h := ?_) | refine WL.y (hy := pkF) (h := ?_) | refine WL.y (hy := pkT) (h := ?_))
        exact mg (by repeat (first | exact trivial | refine ⟨rfl, ?_⟩ | refine ⟨by rw [hb4]; rfl, ?_⟩ | refine ⟨by rw [hb3]; rfl, ?_⟩)) slz_
      refine un (h := ?_)
      refine wy notB ?_
      refine wy (by first | exact pkT | exact pkF) ?_
      exact mg (by repeat (first | exact trivial | refine ⟨rfl, ?_⟩ | refine ⟨by rw [hb3]; rfl, ?_⟩)) slz_
    · intro hb3
      repeat (first | refine un (h := ?_) | refine sk (h := ?_) | refine WL.y (hy := pkF) (h := ?_) | refine WL.y (hy := pkT) (h := ?_))
      exact mg (by repeat (first | exact trivial | refine ⟨rfl, ?_⟩ | refine ⟨by rw [hb3]; rfl, ?_⟩)) slz_
    refine wy asg ?_
    refine nl (h := ?_)
    refine q_seq (h := ?_)
    refine rtn (h := ?_)
    refine q_ret (hR := ?_)
    rw [hE]
    exact fun w hS => ⟨rfl, hS.sub slz_⟩
theorem C_seat (p : Pl) (a : PA) (slot n : Int) (hq : p.Ok) (w : World) (h : PRd w p a) : C0 Tryz.prog 95 [p.val a, .int .i64 slot, .int .i64 n] w (.bool (seatV p slot n)) := by
  obtain ⟨hp, hl, hpn, hln, hpc⟩ := h
  have hz := hq.z
  refine ⟨en Tryz.func95 Tryz.ntmps95 (((St.init w).share (e := .ro a.pA 3 p.ps.length (encPs p.ps)) hp rfl rfl rfl).share (e := .ro a.lA 1 p.lots.length (enI p.lots)) hl rfl rfl rfl) (h := fun F => ?_)⟩
  refine sq (h := ?_)
  refine rg (h := ?_)
  refine bxA (h := fun b0 => ?_)
  refine wy asg ?_
  refine nl (h := ?_)
  refine q_seq (h := ?_)
  refine sq (h := ?_)
  refine rg (h := ?_)
  refine wy (by first | exact fa | exact faE) ?_
  refine wy (by first | exact ld | exact ldE) ?_
  refine wy quoI ?_
  refine wy (by first | exact fa | exact faE) ?_
  refine wy (by first | exact ld | exact ldE) ?_
  refine wy subI ?_
  refine wy (by first | exact fa | exact faE) ?_
  refine wy (by first | exact ld | exact ldE) ?_
  refine wy quoI ?_
  refine wy subI ?_
  refine bs (h := fun b1 => ?_)
  refine wy asg ?_
  refine nl (h := ?_)
  refine q_seq (h := ?_)
  refine sq (h := ?_)
  refine bk (h := ?_)
  refine sq (h := ?_)
  refine rg (h := ?_)
  refine wy mv ?_
  refine wy eql ?_
  refine wy mv ?_
  apply brAnd 4 22 26 (by exact rfl)
  · intro hb0
    refine un (h := ?_)
    refine wy (by first | exact fa | exact faE) ?_
    refine un (h := ?_)
    refine wy (by first | exact ld | exact ldE) ?_
    refine un (h := ?_)
    refine wy gtr ?_
    refine wy (by first | exact pkT | exact pkF) ?_
    exact mg (by repeat (first | exact trivial | refine ⟨rfl, ?_⟩ | refine ⟨by rw [hb0]; rfl, ?_⟩)) slz_
  · intro hb0
    repeat (first | refine un (h := ?_) | refine sk (h := ?_) | refine WL.y (hy := pkF) (h := ?_) | refine WL.y (hy := pkT) (h := ?_))
    exact mg (by repeat (first | exact trivial | refine ⟨rfl, ?_⟩ | refine ⟨by rw [hb0]; rfl, ?_⟩)) slz_
  refine wy asg ?_
  refine nl (h := ?_)
  refine q_seq (h := ?_)
  refine cd (by exact rfl) (fun h1 => ?_) (fun h1 => ?_)
  · skip
    have hE : seatV p slot n = decide (n = 0) := by rw [seatV, h1]; rfl
    refine sq (h := ?_)
    refine rg (h := ?_)
    refine wy mv ?_
    refine wy eql ?_
    refine wy asg ?_
    refine nl (h := ?_)
    refine q_seq (h := ?_)
    refine rtn (h := ?_)
    refine q_blk_ret (h := ?_)
    refine q_then_ret (h := ?_)
    refine q_ret (hR := ?_)
    rw [hE]
    exact fun w hS => ⟨rfl, hS.sub slz_⟩
  · skip
    have k1 : (decide (slot = 0) && decide (0 < p.seeds)) = false := h1
    refine sq (h := ?_)
    refine rg (h := ?_)
    refine wy mv ?_
    refine wy (by first | exact fa | exact faE) ?_
    refine wy (by first | exact ld | exact ldE) ?_
    refine wy subI ?_
    refine wy eql ?_
    refine wy mv ?_
    apply brAnd 4 35 39 (by exact rfl)
    · intro hb2
      refine un (h := ?_)
      refine wy (by first | exact fa | exact faE) ?_
      refine un (h := ?_)
      refine wy (by first | exact ld | exact ldE) ?_
      refine un (h := ?_)
      refine wy gtr ?_
      refine wy (by first | exact pkT | exact pkF) ?_
      exact mg (by repeat (first | exact trivial | refine ⟨rfl, ?_⟩ | refine ⟨by rw [hb2]; rfl, ?_⟩)) slz_
    · intro hb2
      repeat (first | refine un (h := ?_) | refine sk (h := ?_) | refine WL.y (hy := pkF) (h := ?_) | refine WL.y (hy := pkT) (h := ?_))
      exact mg (by repeat (first | exact trivial | refine ⟨rfl, ?_⟩ | refine ⟨by rw [hb2]; rfl, ?_⟩)) slz_
    refine wy asg ?_
    refine nl (h := ?_)
    refine q_seq (h := ?_)
    refine cd (by exact rfl) (fun h3 => ?_) (fun h3 => ?_)
    · skip
      have hE : seatV p slot n = decide (n = 1) := by rw [seatV, k1, h3]; rfl
      refine sq (h := ?_)
      refine rg (h := ?_)
      refine wy mv ?_
      refine wy eql ?_
      refine wy asg ?_
      refine nl (h := ?_)
      refine q_seq (h := ?_)
      refine rtn (h := ?_)
      refine q_blk_ret (h := ?_)
      refine q_then_ret (h := ?_)
      refine q_ret (hR := ?_)
      rw [hE]
      exact fun w hS => ⟨rfl, hS.sub slz_⟩
    · skip
      have k2 : (decide (slot = p.size - 1) && decide (1 < p.seeds)) = false := h3
      refine sq (h := ?_)
      refine rg (h := ?_)
      refine wy mv ?_
      refine wy eql ?_
      refine wy mv ?_
      apply brOr 5 45 50 (by exact rfl)
      · intro hb4
        refine un (h := ?_)
        refine wy mv ?_
        refine un (h := ?_)
        refine wy (by first | exact fa | exact faE) ?_
        refine un (h := ?_)
        refine wy (by first | exact ld | exact ldE) ?_
        refine un (h := ?_)
        refine wy geq ?_
        refine wy (by first | exact pkT | exact pkF) ?_
        exact mg (by repeat (first | exact trivial | refine ⟨rfl, ?_⟩ | refine ⟨by rw [hb4]; rfl, ?_⟩)) slz_
      · intro hb4
        repeat (first | refine un (h := ?_) | refine sk (h := ?_) | refine WL.y (hy := pkF) (h := ?_) | refine WL.y (hy := pkT) (h := ?_))
        exact mg (by repeat (first | exact trivial | refine ⟨rfl, ?_⟩ | refine ⟨by rw [hb4]; rfl, ?_⟩)) slz_
      refine wy asg ?_
      refine nl (h := ?_)
      refine q_seq (h := ?_)
      refine cd (by exact rfl) (fun h5 => ?_) (fun h5 => ?_)
      · skip
        have hE : seatV p slot n = true := by rw [seatV, k1, k2, h5]; rfl
        refine sq (h := ?_)
        refine rg (h := ?_)
        refine wy asg ?_
        refine nl (h := ?_)
        refine q_seq (h := ?_)
        refine rtn (h := ?_)
        refine q_blk_ret (h := ?_)
        refine q_then_ret (h := ?_)
        refine q_ret (hR := ?_)
        rw [hE]
        exact fun w hS => ⟨rfl, hS.sub slz_⟩
      · skip
        have hE : seatV p slot n = (decide (1 < n) && [p.size / 4, p.size - 1 - p.size / 4].any fun x => decide (slot = x)) := by rw [seatV, k1, k2, h5]; rfl
        refine skp (h := ?_)
        refine q_blk_norm (h := ?_)
        refine q_seq (h := ?_)
        refine sq (h := ?_)
        refine rg (h := ?_)
        refine wy mv ?_
        refine wy gtr ?_
        refine wy mv ?_
        apply brAnd 4 53 57 (by exact rfl)
        · intro hb6
          refine un (h := ?_)
          refine wy mv ?_
          refine un (h := ?_)
          refine wy mv ?_
          refine un (h := ?_)
          refine cl0 (hc := fun w hS => C_slices_Contains [p.size / 4, p.size - 1 - p.size / 4] slot (some ⟨b1, 0, none⟩) 2 2 w (hS.get (by repeat (first | exact Rds.own | apply Rds.there))) (by omega)) (h := ?_)
          refine wy (by first | exact pkT | exact pkF) ?_
          exact mg (by repeat (first | exact trivial | refine ⟨rfl, ?_⟩ | refine ⟨by rw [hb6]; rfl, ?_⟩)) slz_
        · intro hb6
          repeat (first | refine un (h := ?_) | refine sk (h := ?_) | refine WL.y (hy := pkF) (h := ?_) | refine WL.y (hy := pkT) (h := ?_))
          exact mg (by repeat (first | exact trivial | refine ⟨rfl, ?_⟩ | refine ⟨by rw [hb6]; rfl, ?_⟩)) slz_
        refine wy asg ?_
        refine nl (h := ?_)
        refine q_seq (h := ?_)
        refine rtn (h := ?_)
        refine q_ret (hR := ?_)
        rw [hE]
        exact fun w hS => ⟨rfl, hS.sub slz_⟩
theorem T_bye (p : Pl) (a : PA) (b b2 : Nat) (n o : Int) : Tr Tryz.prog 104 [.int .i64 n, .int .i64 o, .pointer (some ⟨b, 0, none⟩), .pointer (some ⟨b2, 0, none⟩)] [.blk b 62 (p.cells a), .blk b2 3 [.int .i64 (byesV p)]] (fun _ : Unit => True) (fun _ => .bool (byeV p n o)) (fun _ => [.blk b 62 (p.cells a), .blk b2 3 [.int .i64 (byesV p)]]) := by
  refine ⟨fun w0 w R hst => ?_⟩
  refine en Tryz.func104 Tryz.ntmps104 hst (h := fun F => ?_)
  refine sq (h := ?_)
  refine rg (h := ?_)
  refine wy asg ?_
  refine nl (h := ?_)
  refine q_seq (h := ?_)
  refine sq (h := ?_)
  refine rg (h := ?_)
  refine wy mv ?_
  refine wy eql ?_
  refine wy mv ?_
  apply brOr 5 9 14 (by exact rfl)
  · intro hb0
    refine un (h := ?_)
    refine wy mv ?_
    refine un (h := ?_)
    refine wy (by first | exact fa | exact faE) ?_
    refine un (h := ?_)
    refine wy (by first | exact ld | exact ldE) ?_
    refine un (h := ?_)
    refine wy geq ?_
    refine wy (by first | exact pkT | exact pkF) ?_
    exact mg (by repeat (first | exact trivial | refine ⟨rfl, ?_⟩ | refine ⟨by rw [hb0]; rfl, ?_⟩)) slz_
  · intro hb0
    repeat (first | refine un (h := ?_) | refine sk (h := ?_) | refine WL.y (hy := pkF) (h := ?_) | refine WL.y (hy := pkT) (h := ?_))
    exact mg (by repeat (first | exact trivial | refine ⟨rfl, ?_⟩ | refine ⟨by rw [hb0]; rfl, ?_⟩)) slz_
  refine wy mv ?_
  apply brOr 7 15 22 (by exact rfl)
  · intro hb1
    refine un (h := ?_)
    refine wy mv ?_
    refine un (h := ?_)
    refine wy eql ?_
    refine un (h := ?_)
    refine wy mv ?_
    refine un (h := ?_)
    refine wy (by first | exact ld | exact ldE) ?_
    refine un (h := ?_)
    refine wy lss ?_
    refine un (h := ?_)
    refine wy eqlB ?_
    refine wy (by first | exact pkT | exact pkF) ?_
    exact mg (by repeat (first | exact trivial | refine ⟨rfl, ?_⟩ | refine ⟨by rw [hb1]; rfl, ?_⟩)) slz_
  · intro hb1
    repeat (first | refine un (h := ?_) | refine sk (h := ?_) | refine WL.y (hy := pkF) (h := ?_) | refine WL.y (hy := pkT) (h := ?_))
    exact mg (by repeat (first | exact trivial | refine ⟨rfl, ?_⟩ | refine ⟨by rw [hb1]; rfl, ?_⟩)) slz_
  refine wy asg ?_
  refine nl (h := ?_)
  refine q_seq (h := ?_)
  refine rtn (h := ?_)
  refine q_ret (hR := ?_)
  exact fun w hS => ⟨(), trivial, rfl, hS.sub slz_⟩
theorem C_match (p : Pl) (a : PA) (x y : Int) (hq : p.Ok) (hx : InP p x) (hy : InP p y) (w : World) (h : PRd w p a) : C0 Tryz.prog 96 [p.val a, .int .i64 x, .int .i64 y] w (.bool (matchV p x y)) := by
  obtain ⟨hp, hl, hpn, hln, hpc⟩ := h
  have hz := hq.z
  have hqn := hq.n
  refine ⟨en Tryz.func96 Tryz.ntmps96 (((St.init w).share (e := .ro a.pA 3 p.ps.length (encPs p.ps)) hp rfl rfl rfl).share (e := .ro a.lA 1 p.lots.length (enI p.lots)) hl rfl rfl rfl) (h := fun F => ?_)⟩
  refine sq (h := ?_)
  refine rg (h := ?_)
  refine bxA (h := fun b0 => ?_)
  refine wy asg ?_
  refine nl (h := ?_)
  refine q_seq (h := ?_)
  refine sq (h := ?_)
  refine rg (h := ?_)
  refine wy (by first | exact fa | exact faE) ?_
  refine wy (by first | exact ld | exact ldE) ?_
  refine wy (by first | exact fa | exact faE) ?_
  refine wy (by first | exact ld | exact ldE) ?_
  refine wy lenS ?_
  refine wy subI ?_
  refine al (h := fun b1 => ?_)
  first | refine st (h := ?_) | refine stE (h := ?_)
  refine nl (h := ?_)
  refine q_seq (h := ?_)
  refine sq (h := ?_)
  refine rg (h := ?_)
  refine wy mkf ?_
  refine wy asg ?_
  refine nl (h := ?_)
  refine q_seq (h := ?_)
  refine sq (h := ?_)
  refine sq (h := ?_)
  refine rg (h := ?_)
  refine wy (by first | exact ld | exact ldE) ?_
  refine wy (by first | exact fa | exact faE) ?_
  refine wy (by first | exact ld | exact ldE) ?_
  refine wy leq ?_
  refine wy mv ?_
  apply brAnd 19 20 39 (by exact rfl)
  · intro hb0
    refine un (h := ?_)
    refine wy mv ?_
    refine un (h := ?_)
    refine wy eql ?_
    refine un (h := ?_)
    refine wy mv ?_
    apply brAnd 5 23 28 (by exact rfl)
    · intro hb1
      refine un (h := ?_)
      refine wy mv ?_
      refine un (h := ?_)
      refine wy (by first | exact fa | exact faE) ?_
      refine un (h := ?_)
      refine wy (by first | exact ld | exact ldE) ?_
      refine un (h := ?_)
      refine wy geq ?_
      refine un (h := ?_)
      refine wy (by first | exact pkT | exact pkF) ?_
      exact mg (by repeat (first | exact trivial | refine ⟨rfl, ?_⟩ | refine ⟨by rw [hb1]; rfl, ?_⟩ | refine ⟨by rw [hb0]; rfl, ?_⟩)) slz_
    · intro hb1
      repeat (first | refine un (h := ?_) | refine sk (h := ?_) | refine WL.y (hy := pkF) (h := ?_) | refine WL.y (hy := pkT) (h := ?_))
      exact mg (by repeat (first | exact trivial | refine ⟨rfl, ?_⟩ | refine ⟨by rw [hb1]; rfl, ?_⟩ | refine ⟨by rw [hb0]; rfl, ?_⟩)) slz_
    refine un (h := ?_)
    refine wy mv ?_
    apply brOr 9 29 38 (by exact rfl)
    · intro hb2
      refine un (h := ?_)
      refine wy mv ?_
      refine un (h := ?_)
      refine wy eql ?_
      refine un (h := ?_)
      refine wy mv ?_
      apply brAnd 5 32 37 (by exact rfl)
      · intro hb3
        refine un (h := ?_)
        refine wy mv ?_
        refine un (h := ?_)
        refine wy (by first | exact fa | exact faE) ?_
        refine un (h := ?_)
        refine wy (by first | exact ld | exact ldE) ?_
        refine un (h := ?_)
        refine wy geq ?_
        refine un (h := ?_)
        refine wy (by first | exact pkT | exact pkF) ?_
        exact mg (by repeat (first | exact trivial | refine ⟨rfl, ?_⟩ | refine ⟨by rw [hb3]; rfl, ?_⟩ | refine ⟨by rw [hb0]; rfl, ?_⟩ | refine ⟨by rw [hb2]; rfl, ?_⟩)) slz_
      · intro hb3
        repeat (first | refine un (h := ?_) | refine sk (h := ?_) | refine WL.y (hy := pkF) (h := ?_) | refine WL.y (hy := pkT) (h := ?_))
        exact mg (by repeat (first | exact trivial | refine ⟨rfl, ?_⟩ | refine ⟨by rw [hb3]; rfl, ?_⟩ | refine ⟨by rw [hb0]; rfl, ?_⟩ | refine ⟨by rw [hb2]; rfl, ?_⟩)) slz_
      refine un (h := ?_)
      refine wy (by first | exact pkT | exact pkF) ?_
      exact mg (by repeat (first | exact trivial | refine ⟨rfl, ?_⟩ | refine ⟨by rw [hb2]; rfl, ?_⟩ | refine ⟨by rw [hb0]; rfl, ?_⟩)) slz_
    · intro hb2
      repeat (first | refine un (h := ?_) | refine sk (h := ?_) | refine WL.y (hy := pkF) (h := ?_) | refine WL.y (hy := pkT) (h := ?_))
      exact mg (by repeat (first | exact trivial | refine ⟨rfl, ?_⟩ | refine ⟨by rw [hb2]; rfl, ?_⟩ | refine ⟨by rw [hb0]; rfl, ?_⟩)) slz_
    refine wy (by first | exact pkT | exact pkF) ?_
    exact mg (by repeat (first | exact trivial | refine ⟨rfl, ?_⟩ | refine ⟨by rw [hb0]; rfl, ?_⟩)) slz_
  · intro hb0
    repeat (first | refine un (h := ?_) | refine sk (h := ?_) | refine WL.y (hy := pkF) (h := ?_) | refine WL.y (hy := pkT) (h := ?_))
    exact mg (by repeat (first | exact trivial | refine ⟨rfl, ?_⟩ | refine ⟨by rw [hb0]; rfl, ?_⟩)) slz_
  refine nl (h := ?_)
  refine q_seq (h := ?_)
  refine cd (by exact rfl) (fun h4 => ?_) (fun h4 => ?_)
  · skip
    have hE : matchV p x y = false := by rw [matchV, show (decide (byesV p ≤ p.seeds) && _) = true from h4]; rfl
    refine sq (h := ?_)
    refine rg (h := ?_)
    refine wy asg ?_
    refine nl (h := ?_)
    refine q_seq (h := ?_)
    refine rtn (h := ?_)
    refine q_then_ret (h := ?_)
    refine q_ret (hR := ?_)
    rw [hE]
    exact fun w hS => ⟨rfl, hS.sub slz_⟩
  · skip
    have hE : matchV p x y = (apartV p x y && byeV p x y && byeV p y x) := by rw [matchV, show (decide (byesV p ≤ p.seeds) && _) = false from h4]; rfl
    refine skp (h := ?_)
    refine q_seq (h := ?_)
    refine sq (h := ?_)
    refine rg (h := ?_)
    refine wy (by first | exact ldA | exact ldEA) ?_
    refine wy mv ?_
    refine wy mv ?_
    refine cl0 (hc := fun w hS => C_apart p a x y hx hy w ⟨hS.get, hS.get, hpn, hln, hpc⟩) (h := ?_)
    refine wy mv ?_
    apply brAnd 5 44 49 (by exact rfl)
    · intro hb5
      refine un (h := ?_)
      refine wy mv ?_
      refine un (h := ?_)
      refine wy mv ?_
      refine un (h := ?_)
      refine wy mv ?_
      refine un (h := ?_)
      refine clfT inferInstance (fi := []) (cap := [.pointer (some ⟨b0, 0, none⟩), .pointer (some ⟨b1, 0, none⟩)]) (by exact rfl) (by repeat (first | exact Evs.nil | (apply Evs.cons; exact rfl))) (T_bye p a b0 b1 x y) rfl (by repeat (first | exact Spl.nil | (apply Spl.cons; (repeat (first | exact At.here | apply At.there))))) (h := fun _ _ => ?_)
      refine wy (by first | exact pkT | exact pkF) ?_
      exact mg (by repeat (first | exact trivial | refine ⟨rfl, ?_⟩ | refine ⟨by rw [hb5]; rfl, ?_⟩)) slz_
    · intro hb5
      repeat (first | refine un (h := ?_) | refine sk (h := ?_) | refine WL.y (hy := pkF) (h := ?_) | refine WL.y (hy := pkT) (h := ?_))
      exact mg (by repeat (first | exact trivial | refine ⟨rfl, ?_⟩ | refine ⟨by rw [hb5]; rfl, ?_⟩)) slz_
    refine wy mv ?_
    apply brAnd 5 50 55 (by exact rfl)
    · intro hb6
      refine un (h := ?_)
      refine wy mv ?_
      refine un (h := ?_)
      refine wy mv ?_
      refine un (h := ?_)
      refine wy mv ?_
      refine un (h := ?_)
      refine clfT inferInstance (fi := []) (cap := [.pointer (some ⟨b0, 0, none⟩), .pointer (some ⟨b1, 0, none⟩)]) (by exact rfl) (by repeat (first | exact Evs.nil | (apply Evs.cons; exact rfl))) (T_bye p a b0 b1 y x) rfl (by repeat (first | exact Spl.nil | (apply Spl.cons; (repeat (first | exact At.here | apply At.there))))) (h := fun _ _ => ?_)
      refine wy (by first | exact pkT | exact pkF) ?_
      exact mg (by repeat (first | exact trivial | refine ⟨rfl, ?_⟩ | refine ⟨by rw [hb6]; rfl, ?_⟩)) slz_
    · intro hb6
      repeat (first | refine un (h := ?_) | refine sk (h := ?_) | refine WL.y (hy := pkF) (h := ?_) | refine WL.y (hy := pkT) (h := ?_))
      exact mg (by repeat (first | exact trivial | refine ⟨rfl, ?_⟩ | refine ⟨by rw [hb6]; rfl, ?_⟩)) slz_
    refine wy asg ?_
    refine nl (h := ?_)
    refine q_seq (h := ?_)
    refine rtn (h := ?_)
    refine q_ret (hR := ?_)
    rw [hE]
    exact fun w hS => ⟨rfl, hS.sub slz_⟩
def plyV (p : Pl) (n : Int) : Int := bif decide (n = -1) then -1 else (psAt p n).player
structure ShZ where
  (k : Nat) (A : Option Addr) (c : Nat)
theorem C_sheet (p : Pl) (a : PA) (l : List Int) (A : Option Addr) (n c : Nat) (hn : l.length = n) (hn2 : n ≤ 1000) (hin : ∀ x ∈ l, InP p x) (w : World) (h : PRd w p a) (hA : Rd w A 1 n (enI l)) : CR Tryz.prog 72 [p.val a, .slice A n c] w (fun _ : Option Addr × Nat => True) (fun x => .slice x.1 n x.2) (fun x => [.own x.1 x.2 3 1 n (enI (l.map (plyV p)))]) := by
  obtain ⟨hp, hl, hpn, hln, hpc⟩ := h
  refine ⟨en Tryz.func72 Tryz.ntmps72 ((((St.init w).share (e := .ro a.pA 3 p.ps.length (encPs p.ps)) hp rfl rfl rfl).share (e := .ro a.lA 1 p.lots.length (enI p.lots)) hl rfl rfl rfl).share (e := .ro A 1 n (enI l)) hA rfl rfl rfl) (h := fun F => ?_)⟩
  refine sq (h := ?_)
  refine rg (h := ?_)
  refine bxA (h := fun b0 => ?_)
  refine wy asg ?_
  refine nl (h := ?_)
  refine q_seq (h := ?_)
  refine sq (h := ?_)
  refine WC.nilOwn 3 1 (h := ?_)
  refine rg (h := ?_)
  refine wy asg ?_
  refine nl (h := ?_)
  refine q_seq (h := ?_)
  refine sq (h := ?_)
  refine sq (h := ?_)
  refine rg (h := ?_)
  refine wy mv ?_
  refine wy lenS ?_
  refine wy mv ?_
  refine nl (h := ?_)
  refine q_seq (h := ?_)
  refine bk (h := ?_)
  refine lp (X := ShZ) (I := fun z => z.k ≤ n) (le := fun z => [(2, .pointer (some ⟨b0, 0, none⟩)), (5, .slice z.A z.k z.c), (8, .slice A n c), (9, .int .i64 n), (10, .int .i64 z.k)]) (Le := fun z => .own z.A z.c 3 1 z.k (enI ((l.take z.k).map (plyV p))) :: .ro A 1 n (enI l) :: plL p a b0) (μ := fun z => n - z.k) ⟨0, none, 0⟩ (Nat.zero_le _) sbz_ slz_ (fun z hz => ?_)
  refine sq (h := ?_)
  refine rg (h := ?_)
  refine wy lss ?_
  refine nl (h := ?_)
  refine q_seq (h := ?_)
  refine sq (h := ?_)
  refine cd (by exact rfl) (fun h0 => ?_) (fun h0 => ?_)
  · skip
    have hkn : z.k < n := by simp only [decide_eq_true_eq] at h0; omega
    obtain ⟨x, hx1⟩ : ∃ x, l[z.k]? = some x := ⟨_, List.getElem?_eq_getElem (by omega)⟩
    have hxe := enI_at hx1
    have hxr := hin x (List.mem_of_getElem? hx1)
    have hst : enI ((l.take (z.k + 1)).map (plyV p)) = enI ((l.take z.k).map (plyV p)) ++ [[.int .i64 (plyV p x)]] := by rw [List.take_add_one, hx1, List.map_append, enI_app]; rfl
    refine skp (h := ?_)
    refine q_seq (h := ?_)
    refine sq (h := ?_)
    refine bk (h := ?_)
    refine sq (h := ?_)
    refine rg (h := ?_)
    refine wy (ix (A := A) (m := n)) ?_
    refine wy (ldE (A := A) (hk := hxe)) ?_
    refine wy asg ?_
    refine nl (h := ?_)
    refine q_seq (h := ?_)
    refine sq (h := ?_)
    refine rg (h := ?_)
    refine wy mv ?_
    refine wy eql ?_
    refine nl (h := ?_)
    refine q_seq (h := ?_)
    refine cd (by exact rfl) (fun h1 => ?_) (fun h1 => ?_)
    · skip
      have hv : plyV p x = -1 := by rw [plyV, h1]; rfl
      refine rg (h := ?_)
      refine wy mv ?_
      refine bs (h := fun b1 => ?_)
      first | refine ap (h := fun A1 c1 => ?_) | refine ap0 (h := fun A1 c1 => ?_)
      refine wy asg ?_
      refine nl (h := ?_)
      refine q_blk_norm (h := ?_)
      refine q_seq (h := ?_)
      refine rg (h := ?_)
      refine wy addI ?_
      refine wy mv ?_
      refine nl (h := ?_)
      refine rn (x := z) ⟨z.k + 1, _, _⟩ (by dsimp only; omega) (by dsimp only; omega) sbz_ (by dsimp only; rw [hst, hv]; repeat (first | exact SubL.nil | (apply SubL.cons; (repeat (first | exact At.here | apply At.there))) | exact SubL.refl _ | apply SubL.skip))
    · skip
      have hv : plyV p x = (psAt p x).player := by rw [plyV, h1]; rfl
      have hx2 : 0 ≤ x ∧ x < p.ps.length := by
        rcases hxr with h | h
        · exact absurd h (of_decide_eq_false h1)
        · exact h
      have hpe := encPs_at (psAt_eq hx2)
      refine rg (h := ?_)
      refine wy mv ?_
      refine wy (by first | exact fa | exact faE) ?_
      refine wy (by first | exact ld | exact ldE) ?_
      refine wy mv ?_
      refine wy (ix (A := a.pA) (m := p.ps.length)) ?_
      refine wy (by first | exact fa | exact faE) ?_
      refine wy (ldE (A := a.pA) (hk := hpe)) ?_
      refine bs (h := fun b2 => ?_)
      first | refine ap (h := fun A2 c2 => ?_) | refine ap0 (h := fun A2 c2 => ?_)
      refine wy asg ?_
      refine nl (h := ?_)
      refine q_blk_norm (h := ?_)
      refine q_seq (h := ?_)
      refine rg (h := ?_)
      refine wy addI ?_
      refine wy mv ?_
      refine nl (h := ?_)
      refine rn (x := z) ⟨z.k + 1, _, _⟩ (by dsimp only; omega) (by dsimp only; omega) sbz_ (by dsimp only; rw [hst, hv]; repeat (first | exact SubL.nil | (apply SubL.cons; (repeat (first | exact At.here | apply At.there))) | exact SubL.refl _ | apply SubL.skip))
  · skip
    have hkn : z.k = n := by simp only [decide_eq_false_iff_not] at h0; omega
    rw [hkn, List.take_of_length_le (by omega)]
    refine et (h := ?_)
    refine q_then_exit (h := ?_)
    refine q_then_exit (h := ?_)
    refine q_blk_hit (h := ?_)
    refine q_seq (h := ?_)
    refine sq (h := ?_)
    refine rg (h := ?_)
    refine wy mv ?_
    refine wy asg ?_
    refine nl (h := ?_)
    refine q_seq (h := ?_)
    refine rtn (h := ?_)
    refine q_ret (hR := ?_)
    exact fun w hS => ⟨(z.A, z.c), trivial, rfl, hS.sub slz_⟩
end Go.Proofs.YtmlhnajgiopfgaaGreat

namespace Go.Proofs.YtmlhnajgiopfgaaGreat
open Go Go.RowKit

def posV (lt : Int → Int → Bool) (l : List Int) (x : Int) : Nat → Nat
  | 0 => 0
  | j + 1 => match l[j]? with
    | some y => bif lt x y then posV lt l x j else j + 1
    | none => j + 1
def insV (lt : Int → Int → Bool) (l : List Int) (x : Int) : List Int := l.take (posV lt l x l.length) ++ x :: l.drop (posV lt l x l.length)
def sortTo (lt : Int → Int → Bool) (xs : List Int) : Nat → List Int
  | 0 => []
  | k + 1 => match xs[k]? with
    | some x => insV lt (sortTo lt xs k) x
    | none => sortTo lt xs k
def sortV (lt : Int → Int → Bool) (xs : List Int) : List Int := sortTo lt xs xs.length
theorem posV_le (lt : Int → Int → Bool) (l : List Int) (x : Int) : ∀ j, posV lt l x j ≤ j
  | 0 => Nat.le_refl _
  | j + 1 => by
    rw [posV]
    cases l[j]? with
    | none => exact Nat.le_refl _
    | some y =>
      show (bif lt x y then posV lt l x j else j + 1) ≤ j + 1
      cases lt x y
      · exact Nat.le_refl _
      · exact Nat.le_succ_of_le (posV_le lt l x j)
theorem insV_len (lt : Int → Int → Bool) (l : List Int) (x : Int) : (insV lt l x).length = l.length + 1 := by
  have := posV_le lt l x l.length
  simp [insV]; omega
theorem sortTo_len (lt : Int → Int → Bool) (xs : List Int) : ∀ k, k ≤ xs.length → (sortTo lt xs k).length = k
  | 0, _ => rfl
  | k + 1, hk => by
    rw [sortTo, List.getElem?_eq_getElem (by omega)]
    simp only [insV_len, sortTo_len lt xs k (by omega)]
theorem posV_step {lt : Int → Int → Bool} {l : List Int} {x y : Int} {j : Nat} (h : l[j]? = some y) : posV lt l x (j + 1) = bif lt x y then posV lt l x j else j + 1 := by rw [posV, h]
theorem insV_mem (lt : Int → Int → Bool) (l : List Int) (x y : Int) : y ∈ insV lt l x ↔ y = x ∨ y ∈ l := by
  unfold insV
  constructor
  · intro h
    rcases List.mem_append.1 h with h | h
    · exact .inr (List.mem_of_mem_take h)
    · rcases List.mem_cons.1 h with h | h
      · exact .inl h
      · exact .inr (List.mem_of_mem_drop h)
  · rintro (rfl | h)
    · exact List.mem_append.2 (.inr (List.mem_cons_self ..))
    · rw [← List.take_append_drop (posV lt l x l.length) l] at h
      rcases List.mem_append.1 h with h | h
      · exact List.mem_append.2 (.inl h)
      · exact List.mem_append.2 (.inr (List.mem_cons_of_mem _ h))
theorem sortTo_mem (lt : Int → Int → Bool) (xs : List Int) (y : Int) : ∀ k, k ≤ xs.length → (y ∈ sortTo lt xs k ↔ y ∈ xs.take k)
  | 0, _ => by simp [sortTo]
  | k + 1, hk => by
    have h : xs[k]? = some xs[k] := List.getElem?_eq_getElem (by omega)
    rw [sortTo, h, List.take_add_one, h]
    simp only [insV_mem, sortTo_mem lt xs y k (by omega), List.mem_append, Option.toList_some, List.mem_singleton]
    exact Or.comm
theorem sortV_mem (lt : Int → Int → Bool) (xs : List Int) (y : Int) : y ∈ sortV lt xs ↔ y ∈ xs := by
  rw [sortV, sortTo_mem lt xs y _ (Nat.le_refl _), List.take_length]
def midV (lt : Int → Int → Bool) (xs : List Int) (k j : Nat) (x : Int) : List Int := (sortTo lt xs k).take j ++ x :: ((sortTo lt xs k).drop j ++ xs.drop (k + 1))
theorem mid_start {lt : Int → Int → Bool} {xs : List Int} {k : Nat} {x : Int} (hx : xs[k]? = some x) : midV lt xs k k x = sortTo lt xs k ++ xs.drop k := by
  have hk : k < xs.length := (List.getElem?_eq_some_iff.1 hx).1
  have hl := sortTo_len lt xs k (by omega)
  unfold midV
  rw [List.take_of_length_le (by omega), List.drop_of_length_le (by omega), List.nil_append, List.drop_eq_getElem_cons hk]
  congr 2
  rw [List.getElem?_eq_getElem hk] at hx
  injection hx with hx; exact hx.symm
theorem mid_at {lt : Int → Int → Bool} {xs : List Int} {k j : Nat} {x : Int} (hk : k < xs.length) (hj : j ≤ k) : (midV lt xs k j x)[j]? = some x := by
  have := sortTo_len lt xs k (by omega)
  unfold midV
  have hl : ((sortTo lt xs k).take j).length = j := by rw [List.length_take]; omega
  rw [List.getElem?_append_right (by omega), hl, Nat.sub_self]; rfl
theorem mid_below {lt : Int → Int → Bool} {xs : List Int} {k j : Nat} {x y : Int} (hk : k < xs.length) (hj : j + 1 ≤ k) (hy : (sortTo lt xs k)[j]? = some y) : (midV lt xs k (j + 1) x)[j]? = some y := by
  have := sortTo_len lt xs k (by omega)
  unfold midV
  rw [List.getElem?_append_left (by rw [List.length_take]; omega), List.getElem?_take]
  simp [hy]
theorem mid_swap {lt : Int → Int → Bool} {xs : List Int} {k j : Nat} {x y : Int} (hk : k < xs.length) (hj : j + 1 ≤ k) (hy : (sortTo lt xs k)[j]? = some y) : ((midV lt xs k (j + 1) x).set (j + 1) y).set j x = midV lt xs k j x := by
  have hl := sortTo_len lt xs k (by omega)
  have hjl : j < (sortTo lt xs k).length := by omega
  unfold midV
  have ht : (sortTo lt xs k).take (j + 1) = (sortTo lt xs k).take j ++ [y] := by rw [List.take_add_one, hy]; rfl
  have hd : (sortTo lt xs k).drop j = y :: (sortTo lt xs k).drop (j + 1) := by
    rw [List.drop_eq_getElem_cons hjl]
    congr 1
    rw [List.getElem?_eq_getElem hjl] at hy
    injection hy
  have hlt : ((sortTo lt xs k).take j).length = j := by rw [List.length_take]; omega
  rw [ht, hd, List.append_assoc, List.set_append_right _ _ (by omega), hlt]
  rw [show j + 1 - j = 1 by omega]
  simp only [List.singleton_append, List.set_cons_succ, List.set_cons_zero]
  rw [List.set_append_right _ _ (by omega), hlt, Nat.sub_self]
  simp
theorem mid_end {lt : Int → Int → Bool} {xs : List Int} {k : Nat} {x : Int} (hx : xs[k]? = some x) (j : Nat) (hj : posV lt (sortTo lt xs k) x k = j) : midV lt xs k j x = sortTo lt xs (k + 1) ++ xs.drop (k + 1) := by
  have hk : k < xs.length := (List.getElem?_eq_some_iff.1 hx).1
  have hl := sortTo_len lt xs k (by omega)
  rw [sortTo, hx]
  unfold midV insV
  simp only
  rw [hl, hj]
  simp

def cmpPD (p : Pl) (x y : Int) : Int := (psAt p x).player - (psAt p y).player
def ltP (p : Pl) (x y : Int) : Bool := decide (cmpPD p x y < 0)
abbrev ordL (p : Pl) (a : PA) (b : Nat) : List Ent := [.blk b 62 (p.cells a), .ro a.pA 3 p.ps.length (encPs p.ps)]
theorem ps_rng {p : Pl} (hq : p.Ok) {x : Int} (hx : 0 ≤ x ∧ x < p.ps.length) : 0 ≤ (psAt p x).player ∧ (psAt p x).player ≤ 999 := (hq.pr _ _ (psAt_eq hx)).1
theorem T_dsort (p : Pl) (a : PA) (b : Nat) (hq : p.Ok) (x y : Int) (hx : 0 ≤ x ∧ x < p.ps.length) (hy : 0 ≤ y ∧ y < p.ps.length) :
    Tr Tryz.prog 92 [.int .i64 x, .int .i64 y, .pointer (some ⟨b, 0, none⟩)] (ordL p a b) (fun _ : Unit => True) (fun _ => .int .i64 (cmpPD p x y)) (fun _ => ordL p a b) := by
  refine ⟨fun w0 w R hst => ?_⟩
  have hge := encPs_at (psAt_eq hx)
  have hhe := encPs_at (psAt_eq hy)
  have hgo := ps_rng hq hx
  have hho := ps_rng hq hy
  refine en Tryz.func92 Tryz.ntmps92 hst (h := fun F => ?_)
  refine sq (h := ?_)
  refine rg (h := ?_)
  refine wy asg ?_
  refine nl (h := ?_)
  refine q_seq (h := ?_)
  refine sq (h := ?_)
  refine rgD (by kernel_rfl) [(1000000, .blk b 62 (p.cells a)), (1000000, .ro a.pA 3 p.ps.length (encPs p.ps))] (by repeat (first | exact HS.nil | (apply HS.keep; (repeat (first | exact At.here | apply At.there))) | (apply HS.ro; (repeat (first | exact Rds.ro | exact Rds.own | apply Rds.there))))) (h := ?_)
  refine tk 0 (hy := (by first | exact fa | exact faE)) (h := ?_)
  refine tk 1 (hy := (by first | exact ld | exact ldE)) (h := ?_)
  refine tk 2 (hy := mv) (h := ?_)
  refine tk 3 (hy := ix (A := a.pA) (m := p.ps.length)) (h := ?_)
  refine tk 4 (hy := (by first | exact fa | exact faE)) (h := ?_)
  refine tk 5 (hy := ldE (A := a.pA) (hk := hge)) (h := ?_)
  refine tk 6 (hy := (by first | exact fa | exact faE)) (h := ?_)
  refine tk 7 (hy := (by first | exact ld | exact ldE)) (h := ?_)
  refine tk 8 (hy := mv) (h := ?_)
  refine tk 9 (hy := ix (A := a.pA) (m := p.ps.length)) (h := ?_)
  refine tk 10 (hy := (by first | exact fa | exact faE)) (h := ?_)
  refine tk 11 (hy := ldE (A := a.pA) (hk := hhe)) (h := ?_)
  refine tk 12 (hy := subI) (h := ?_)
  refine tk 13 (hy := asg) (h := ?_)
  refine dn (h := ?_)
  refine q_seq (h := ?_)
  refine rtn (h := ?_)
  refine q_ret (hR := ?_)
  exact fun w hS => ⟨(), trivial, rfl, hS.sub slz_⟩
set_option maxHeartbeats 1000000 in
theorem T_insertion (p : Pl) (a : PA) (b : Nat) (hq : p.Ok) (xs : List Int) (A : Option Addr) (n c : Nat) (hlen : xs.length = n) (hn : n ≤ 40) (hr : ∀ x ∈ xs, 0 ≤ x ∧ x < p.ps.length) :
    Tr Tryz.prog 107 [.slice A n c, .int .i64 0, .int .i64 n, .func (.func 92) #[] #[.pointer (some ⟨b, 0, none⟩)]] (.own A c 3 1 n (enI xs) :: ordL p a b) (fun _ : Unit => True) (fun _ => .tuple #[]) (fun _ => .own A c 3 1 n (enI (sortV (ltP p) xs)) :: ordL p a b) := by
  refine ⟨fun w0 w R hst => ?_⟩
  have h1 : sortTo (ltP p) xs 1 ++ xs.drop 1 = xs := by
    cases xs with
    | nil => rfl
    | cons x t => simp [sortTo, insV, posV]
  refine en Tryz.func107 Tryz.ntmps107 hst (h := fun F => ?_)
  refine sq (h := ?_)
  refine rg (h := ?_)
  refine wy mv ?_
  refine wy addI ?_
  refine wy asg ?_
  refine nl (h := ?_)
  refine q_seq (h := ?_)
  refine bk (h := ?_)
  refine lp (X := Nat) (I := fun k => 1 ≤ k ∧ (k ≤ n ∨ k = 1)) (le := fun k => [(0, .slice A n c), (1, .int .i64 0), (2, .int .i64 n), (3, .func (.func 92) #[] #[.pointer (some ⟨b, 0, none⟩)]), (8, .int .i64 k)]) (Le := fun k => .own A c 3 1 n (enI (sortTo (ltP p) xs k ++ xs.drop k)) :: (ordL p a b ++ R)) (μ := fun k => n + 1 - k) 1 ⟨Nat.le_refl _, .inr rfl⟩ sbz_ (by rw [h1]; exact SubL.refl _) (fun k hk => ?_)
  obtain ⟨hk1', hkn'⟩ := hk
  refine sq (h := ?_)
  refine sq (h := ?_)
  refine rg (h := ?_)
  refine wy mv ?_
  refine wy mv ?_
  refine wy lss ?_
  refine nl (h := ?_)
  refine q_seq (h := ?_)
  refine cd (by exact rfl) (fun h0 => ?_) (fun h0 => ?_)
  · skip
    have hkn : k < n := by simp only [decide_eq_true_eq] at h0; omega
    obtain ⟨x, hx⟩ : ∃ x, xs[k]? = some x := ⟨_, List.getElem?_eq_getElem (by omega)⟩
    have hxr := hr x (List.mem_of_getElem? hx)
    have hsl := sortTo_len (ltP p) xs k (by omega)
    rw [← mid_start hx]
    refine skp (h := ?_)
    refine q_seq (h := ?_)
    refine sq (h := ?_)
    refine bk (h := ?_)
    refine sq (h := ?_)
    refine rg (h := ?_)
    refine wy mv ?_
    refine wy asg ?_
    refine nl (h := ?_)
    refine q_seq (h := ?_)
    refine bk (h := ?_)
    refine lp (X := Nat) (I := fun j => j ≤ k ∧ posV (ltP p) (sortTo (ltP p) xs k) x k = posV (ltP p) (sortTo (ltP p) xs k) x j) (le := fun j => [(0, .slice A n c), (1, .int .i64 0), (2, .int .i64 n), (3, .func (.func 92) #[] #[.pointer (some ⟨b, 0, none⟩)]), (8, .int .i64 k), (9, .int .i64 j)]) (Le := fun j => .own A c 3 1 n (enI (midV (ltP p) xs k j x)) :: (ordL p a b ++ R)) (μ := fun j => j) k ⟨Nat.le_refl _, rfl⟩ sbz_ slz_ (fun j hj => ?_)
    obtain ⟨hjk, hjp⟩ := hj
    refine sq (h := ?_)
    refine sq (h := ?_)
    refine rgD (by kernel_rfl) [(1000000, .own A c 3 1 n (enI (midV (ltP p) xs k j x)))] (by repeat (first | exact HS.nil | (apply HS.keep; (repeat (first | exact At.here | apply At.there))) | (apply HS.ro; (repeat (first | exact Rds.ro | exact Rds.own | apply Rds.there))))) (h := ?_)
    refine tk 0 (hy := mv) (h := ?_)
    refine tk 1 (hy := mv) (h := ?_)
    refine tk 2 (hy := gtr) (h := ?_)
    refine tk 3 (hy := mv) (h := ?_)
    refine brH (g := 21) (by exact rfl) (fun hb1 => ?_) (fun hb1 => ?_)
    · skip
      obtain ⟨i, hi⟩ : ∃ i, j = i + 1 := ⟨j - 1, by have := of_decide_eq_true hb1; omega⟩
      subst hi
      obtain ⟨y, hy⟩ : ∃ y, (sortTo (ltP p) xs k)[i]? = some y := ⟨_, List.getElem?_eq_getElem (by omega)⟩
      have hyr := hr y (List.mem_of_mem_take ((sortTo_mem (ltP p) xs y k (by omega)).1 (List.mem_of_getElem? hy)))
      have hbe := mid_below (lt := ltP p) (xs := xs) (k := k) (x := x) (by omega) (by omega) hy
      have hae := mid_at (lt := ltP p) (xs := xs) (k := k) (j := i + 1) (x := x) (by omega) (by omega)
      have hk0 : (enI (midV (ltP p) xs k (i + 1) x))[(((i + 1 : Nat) : Int) - 1).toNat]? = some [.int .i64 y] := by rw [show (((i + 1 : Nat) : Int) - 1).toNat = i by omega]; exact enI_at hbe
      have hk1 : (enI (midV (ltP p) xs k (i + 1) x))[(((i + 1 : Nat) : Int)).toNat]? = some [.int .i64 x] := enI_at hae
      refine tk 4 (hy := mv) (h := ?_)
      refine tk 5 (hy := mv) (h := ?_)
      refine tk 6 (hy := mv) (h := ?_)
      refine tk 7 (hy := ix (A := A) (m := n)) (h := ?_)
      refine tk 8 (hy := ldE (A := A) (hk := hk1)) (h := ?_)
      refine tk 9 (hy := mv) (h := ?_)
      refine tk 10 (hy := mv) (h := ?_)
      refine tk 11 (hy := subI) (h := ?_)
      refine tk 12 (hy := ix (A := A) (m := n)) (h := ?_)
      refine tk 13 (hy := ldE (A := A) (hk := hk0)) (h := ?_)
      refine one 14 (h := ?_)
      refine un (h := ?_)
      refine clfT inferInstance (fi := []) (cap := [.pointer (some ⟨b, 0, none⟩)]) (by exact rfl) (by repeat (first | exact Evs.nil | (apply Evs.cons; exact rfl))) (T_dsort p a b hq x y hxr hyr) rfl (by repeat (first | exact Spl.nil | (apply Spl.cons; (repeat (first | exact At.here | apply At.there))))) (h := fun _ _ => ?_)
      refine nx (h := ?_)
      refine tk 15 (hy := lss) (h := ?_)
      refine tk 16 (hy := (by first | exact pkT | exact pkF)) (h := ?_)
      refine dn (h := ?_)
      refine q_seq (h := ?_)
      refine cd (by exact rfl) (fun h2 => ?_) (fun h2 => ?_)
      · skip
        have hlt : ltP p x y = true := h2
        have hp2 : posV (ltP p) (sortTo (ltP p) xs k) x k = posV (ltP p) (sortTo (ltP p) xs k) x i := by rw [hjp, posV_step hy, hlt]; rfl
        have hi1 : (((i + 1 : Nat) : Int) - 1).toNat = i := by omega
        have hk2 : ((enI (midV (ltP p) xs k (i + 1) x)).set (((i + 1 : Nat) : Int)).toNat ([Value.int .i64 x].set 0 (.int .i64 y)))[(((i + 1 : Nat) : Int) - 1).toNat]? = some [.int .i64 y] := by
          rw [hi1, List.getElem?_set_ne (by show i + 1 ≠ i; omega)]
          exact enI_at hbe
        have hsw : ((enI (midV (ltP p) xs k (i + 1) x)).set (((i + 1 : Nat) : Int)).toNat ([Value.int .i64 x].set 0 (.int .i64 y))).set (((i + 1 : Nat) : Int) - 1).toNat ([Value.int .i64 y].set 0 (.int .i64 x)) = enI (midV (ltP p) xs k i x) := by
          rw [hi1]
          show ((enI _).set (i + 1) [.int .i64 y]).set i [.int .i64 x] = _
          rw [enI_set, enI_set, mid_swap (by omega) (by omega) hy]
        refine skp (h := ?_)
        refine q_seq (h := ?_)
        refine sq (h := ?_)
        refine bk (h := ?_)
        refine WC.some_ (A := A) atz_ (by omega) (fun hAs => ?_)
        refine rgD (by kernel_rfl) [(15, .own A c 3 1 n (enI (midV (ltP p) xs k (i + 1) x)))] (by repeat (first | exact HS.nil | (apply HS.keep; (repeat (first | exact At.here | apply At.there))) | (apply HS.ro; (repeat (first | exact Rds.ro | exact Rds.own | apply Rds.there))))) (h := ?_)
        refine tk 0 (hy := mv) (h := ?_)
        refine tk 1 (hy := mv) (h := ?_)
        refine tk 2 (hy := mv) (h := ?_)
        refine tk 3 (hy := mv) (h := ?_)
        refine tk 4 (hy := subI) (h := ?_)
        refine tk 5 (hy := mv) (h := ?_)
        refine tk 6 (hy := mv) (h := ?_)
        refine tk 7 (hy := subI) (h := ?_)
        refine tk 8 (hy := ix (A := A) (m := n)) (h := ?_)
        refine tk 9 (hy := ldE (A := A) (hk := hk0)) (h := ?_)
        refine tk 10 (hy := mv) (h := ?_)
        refine tk 11 (hy := mv) (h := ?_)
        refine tk 12 (hy := ixS (A := A) (m := n) (hs := hAs)) (h := ?_)
        refine tk 13 (hy := ldE (A := A) (hk := hk1)) (h := ?_)
        refine tk 14 (hy := ix (A := A) (m := n)) (h := ?_)
        refine one 15 (h := ?_)
        refine stE (A := A) (hk := hk1) (h := ?_)
        refine nx (h := ?_)
        refine one 16 (h := ?_)
        refine wy (ix (A := A) (m := n)) ?_
        refine nx (h := ?_)
        refine one 17 (h := ?_)
        refine stE (A := A) (hk := hk2) (h := ?_)
        refine nx (h := ?_)
        refine dn (h := ?_)
        refine q_blk_norm (h := ?_)
        refine q_seq (h := ?_)
        refine rg (h := ?_)
        refine wy mv ?_
        refine wy subI ?_
        refine wy asg ?_
        refine nl (h := ?_)
        rw [hsw]
        refine rn (x := i + 1) i ⟨by omega, hp2⟩ (by omega) (by repeat (first | exact trivial | refine ⟨rfl, ?_⟩ | refine ⟨by show some (Value.int .i64 (((i + 1 : Nat) : Int) - 1)) = some (Value.int .i64 (i : Int)); congr 2; omega, ?_⟩)) slz_
      · skip
        first
          | (have hlt : ltP p x y = false := ‹_›
             have hex : posV (ltP p) (sortTo (ltP p) xs k) x k = i + 1 := by rw [hjp, posV_step hy, hlt]; rfl)
          | skip
        refine et (h := ?_)
        refine q_then_exit (h := ?_)
        refine q_then_exit (h := ?_)
        refine q_blk_hit (h := ?_)
        refine q_blk_norm (h := ?_)
        refine q_seq (h := ?_)
        refine rg (h := ?_)
        refine wy mv ?_
        refine wy addI ?_
        refine wy asg ?_
        refine nl (h := ?_)
        rw [mid_end hx _ hex]
        refine rn (x := k) (k + 1) ⟨by omega, by omega⟩ (by omega) sbz_ slz_
    · skip
      obtain rfl : j = 0 := by have := of_decide_eq_false hb1; omega
      have hex : posV (ltP p) (sortTo (ltP p) xs k) x k = 0 := hjp
      refine tkS 4 (h := ?_)
      refine tkS 5 (h := ?_)
      refine tkS 6 (h := ?_)
      refine tkS 7 (h := ?_)
      refine tkS 8 (h := ?_)
      refine tkS 9 (h := ?_)
      refine tkS 10 (h := ?_)
      refine tkS 11 (h := ?_)
      refine tkS 12 (h := ?_)
      refine tkS 13 (h := ?_)
      refine tkS 14 (h := ?_)
      refine tkS 15 (h := ?_)
      refine tk 16 (hy := (by first | exact pkT | exact pkF)) (h := ?_)
      refine dn (h := ?_)
      refine q_seq (h := ?_)
      refine cdF (h := ?_)
      first
        | (have hlt : ltP p x y = false := ‹_›
           have hex : posV (ltP p) (sortTo (ltP p) xs k) x k = i + 1 := by rw [hjp, posV_step hy, hlt]; rfl)
        | skip
      refine et (h := ?_)
      refine q_then_exit (h := ?_)
      refine q_then_exit (h := ?_)
      refine q_blk_hit (h := ?_)
      refine q_blk_norm (h := ?_)
      refine q_seq (h := ?_)
      refine rg (h := ?_)
      refine wy mv ?_
      refine wy addI ?_
      refine wy asg ?_
      refine nl (h := ?_)
      rw [mid_end hx _ hex]
      refine rn (x := k) (k + 1) ⟨by omega, by omega⟩ (by omega) sbz_ slz_
  · skip
    have hkn : sortTo (ltP p) xs k ++ xs.drop k = sortV (ltP p) xs := by
      have hkn : n ≤ k := by simp only [decide_eq_false_iff_not] at h0; omega
      rcases (by omega : k = n ∨ (n = 0 ∧ k = 1)) with rfl | ⟨hn0, rfl⟩
      · rw [← hlen, List.drop_length, List.append_nil]; rfl
      · subst hn0
        rw [List.eq_nil_of_length_eq_zero hlen]; rfl
    rw [hkn]
    refine et (h := ?_)
    refine q_then_exit (h := ?_)
    refine q_then_exit (h := ?_)
    refine q_blk_hit (h := ?_)
    refine q_end (hR := ?_)
    exact fun w hS => ⟨(), trivial, rfl, hS.sub slz_⟩
theorem wrap_u8 {a : Int} (h : 0 ≤ a ∧ a ≤ 255) : IntKind.u8.wrap a = a := by
  simp [IntKind.wrap, IntKind.bits, IntKind.signed]; omega
theorem wrap_u64 {a : Int} (h : 0 ≤ a ∧ a ≤ 1000) : IntKind.u64.wrap a = a := by
  simp [IntKind.wrap, IntKind.bits, IntKind.signed]; omega
theorem C_Len64 (a : Int) (ha : 0 ≤ a ∧ a ≤ 40) (w : World) : CR Tryz.prog 116 [.int .u64 a] w (fun x : Int => 0 ≤ x ∧ x ≤ 255) (fun x => .int .i64 x) (fun _ => []) := by
  refine ⟨en Tryz.func116 Tryz.ntmps116 (St.init w) (h := fun F => ?_)⟩
  refine sq (h := ?_)
  refine rg (h := ?_)
  refine wy asg ?_
  refine nl (h := ?_)
  refine q_seq (h := ?_)
  refine sq (h := ?_)
  refine sq (h := ?_)
  refine rg (h := ?_)
  refine wy mv ?_
  refine wy ((Yd.fl (geq) (by refine decide_eq_false ?_; omega))) ?_
  refine nl (h := ?_)
  refine q_seq (h := ?_)
  refine cdF (h := ?_)
  refine skp (h := ?_)
  refine q_seq (h := ?_)
  refine sq (h := ?_)
  refine sq (h := ?_)
  refine rg (h := ?_)
  refine wy mv ?_
  refine wy ((Yd.fl (geq) (by refine decide_eq_false ?_; omega))) ?_
  refine nl (h := ?_)
  refine q_seq (h := ?_)
  refine cdF (h := ?_)
  refine skp (h := ?_)
  refine q_seq (h := ?_)
  refine sq (h := ?_)
  refine sq (h := ?_)
  refine rg (h := ?_)
  refine wy mv ?_
  refine wy ((Yd.fl (geq) (by refine decide_eq_false ?_; omega))) ?_
  refine nl (h := ?_)
  refine q_seq (h := ?_)
  refine cdF (h := ?_)
  refine skp (h := ?_)
  refine q_seq (h := ?_)
  refine sq (h := ?_)
  refine rg (h := ?_)
  refine wy mv ?_
  refine wy mv ?_
  refine wy (cvI (hw := wrap_u8 (by omega))) ?_
  refine WL.byte (i := a) (by omega) (h := fun bt hbt => ?_)
  refine wy (cvI (hw := IntWalk.i64_in _ (by omega))) ?_
  refine wy (addI (hb := by omega)) ?_
  refine wy asg ?_
  refine nl (h := ?_)
  refine q_seq (h := ?_)
  refine rtn (h := ?_)
  refine q_ret (hR := ?_)
  exact fun w hS => ⟨_, by omega, rfl, hS.sub slz_⟩
theorem C_Len (a : Int) (ha : 0 ≤ a ∧ a ≤ 40) (w : World) : CR Tryz.prog 103 [.int .u64 a] w (fun x : Int => 0 ≤ x ∧ x ≤ 255) (fun x => .int .i64 x) (fun _ => []) := by
  refine ⟨en Tryz.func103 Tryz.ntmps103 (St.init w) (h := fun F => ?_)⟩
  refine sq (h := ?_)
  refine rg (h := ?_)
  refine wy asg ?_
  refine nl (h := ?_)
  refine q_seq (h := ?_)
  refine sq (h := ?_)
  refine cdF (h := ?_)
  refine skp (h := ?_)
  refine q_seq (h := ?_)
  refine sq (h := ?_)
  refine rg (h := ?_)
  refine wy mv ?_
  refine cl (hc := fun w hS => C_Len64 a ha w) (h := fun x hx => ?_)
  refine wy asg ?_
  refine nl (h := ?_)
  refine q_seq (h := ?_)
  refine rtn (h := ?_)
  refine q_ret (hR := ?_)
  exact fun w hS => ⟨x, hx, rfl, hS.sub slz_⟩
theorem T_pdq (p : Pl) (a : PA) (b : Nat) (hq : p.Ok) (xs : List Int) (A : Option Addr) (n c : Nat) (lim : Int) (hlen : xs.length = n) (hn : n ≤ 12) (hr : ∀ x ∈ xs, 0 ≤ x ∧ x < p.ps.length) :
    Tr Tryz.prog 102 [.slice A n c, .int .i64 0, .int .i64 n, .int .i64 lim, .func (.func 92) #[] #[.pointer (some ⟨b, 0, none⟩)]] (.own A c 3 1 n (enI xs) :: ordL p a b) (fun _ : Unit => True) (fun _ => .tuple #[]) (fun _ => .own A c 3 1 n (enI (sortV (ltP p) xs)) :: ordL p a b) := by
  refine ⟨fun w0 w R hst => ?_⟩
  refine en Tryz.func102 Tryz.ntmps102 hst (h := fun F => ?_)
  refine sq (h := ?_)
  refine rg (h := ?_)
  refine wy asg ?_
  refine nl (h := ?_)
  refine q_seq (h := ?_)
  refine sq (h := ?_)
  refine rg (h := ?_)
  refine wy asg ?_
  refine nl (h := ?_)
  refine q_seq (h := ?_)
  refine bk (h := ?_)
  refine lp (X := Unit) (I := fun _ => True) (le := fun _ => [(0, .slice A n c), (1, .int .i64 0), (2, .int .i64 n), (4, .func (.func 92) #[] #[.pointer (some ⟨b, 0, none⟩)])]) (Le := fun _ => .own A c 3 1 n (enI xs) :: (ordL p a b ++ R)) (μ := fun _ => 0) () trivial sbz_ (SubL.refl _) (fun _ _ => ?_)
  refine bk (h := ?_)
  refine sq (h := ?_)
  refine rg (h := ?_)
  refine wy mv ?_
  refine wy mv ?_
  refine wy (subI (hb := by omega)) ?_
  rw [Int.sub_zero]
  refine wy asg ?_
  refine nl (h := ?_)
  refine q_seq (h := ?_)
  refine sq (h := ?_)
  refine sq (h := ?_)
  refine rg (h := ?_)
  refine wy mv ?_
  refine wy ((Yd.tr (leq) (by refine decide_eq_true ?_; omega))) ?_
  refine nl (h := ?_)
  refine q_seq (h := ?_)
  refine cdT (h := ?_)
  refine sq (h := ?_)
  refine rg (h := ?_)
  refine wy mv ?_
  refine wy mv ?_
  refine wy mv ?_
  refine wy mv ?_
  refine clT (hc := T_insertion p a b hq xs A n c hlen (by omega) hr) (hs := (by repeat (first | exact Spl.nil | (apply Spl.cons; (repeat (first | exact At.here | apply At.there)))))) (h := fun _ _ => ?_)
  refine nl (h := ?_)
  refine q_seq (h := ?_)
  refine rtn (h := ?_)
  refine q_then_ret (h := ?_)
  refine q_blk_ret (h := ?_)
  refine q_then_ret (h := ?_)
  refine q_blk_ret (h := ?_)
  refine q_ret (hR := ?_)
  exact fun w hS => ⟨(), trivial, rfl, hS⟩
theorem T_SortFunc (p : Pl) (a : PA) (b : Nat) (hq : p.Ok) (xs : List Int) (A : Option Addr) (n c : Nat) (hlen : xs.length = n) (hn : n ≤ 12) (hr : ∀ x ∈ xs, 0 ≤ x ∧ x < p.ps.length) :
    Tr Tryz.prog 91 [.slice A n c, .func (.func 92) #[] #[.pointer (some ⟨b, 0, none⟩)]] (.own A c 3 1 n (enI xs) :: ordL p a b) (fun _ : Unit => True) (fun _ => .tuple #[]) (fun _ => .own A c 3 1 n (enI (sortV (ltP p) xs)) :: ordL p a b) := by
  refine ⟨fun w0 w R hst => ?_⟩
  refine en Tryz.func91 Tryz.ntmps91 hst (h := fun F => ?_)
  refine sq (h := ?_)
  refine rg (h := ?_)
  refine wy mv ?_
  refine wy lenS ?_
  refine wy asg ?_
  refine nl (h := ?_)
  refine q_seq (h := ?_)
  refine rg (h := ?_)
  refine wy mv ?_
  refine wy mv ?_
  refine wy mv ?_
  refine wy (cvI (hw := wrap_u64 (by omega))) ?_
  refine cl (hc := fun w hS => C_Len n (by omega) w) (h := fun x hx => ?_)
  refine wy mv ?_
  refine clT (hc := T_pdq p a b hq xs A n c x hlen hn hr) (hs := (by repeat (first | exact Spl.nil | (apply Spl.cons; (repeat (first | exact At.here | apply At.there)))))) (h := fun _ _ => ?_)
  refine nl (h := ?_)
  refine q_end (hR := ?_)
  exact fun w hS => ⟨(), trivial, rfl, hS⟩

end Go.Proofs.YtmlhnajgiopfgaaGreat

namespace Go.Proofs.YtmlhnajgiopfgaaGreat
open Go Go.RowKit

def idxs (n : Nat) : List Int := (List.range n).map fun i : Nat => (i : Int)
theorem idxs_succ (n : Nat) : idxs (n + 1) = idxs n ++ [(n : Int)] := by simp [idxs, List.range_succ]
theorem idxs_len (n : Nat) : (idxs n).length = n := by simp [idxs]
theorem idxs_mem {n : Nat} {x : Int} : x ∈ idxs n ↔ 0 ≤ x ∧ x < n := by
  simp only [idxs, List.mem_map, List.mem_range]
  constructor
  · rintro ⟨i, hi, rfl⟩; omega
  · intro h; exact ⟨x.toNat, by omega, by omega⟩
def rkV (p : Pl) : List Int := -1 :: sortV (ltP p) (idxs p.ps.length)
theorem rk_len (p : Pl) : (rkV p).length = p.ps.length + 1 := by
  rw [rkV, List.length_cons, sortV, sortTo_len _ _ _ (Nat.le_refl _), idxs_len]
theorem rk_mem {p : Pl} {x : Int} : x ∈ rkV p ↔ InP p x := by
  rw [rkV, List.mem_cons, sortV_mem, idxs_mem]; rfl
def drawsV (p : Pl) : List (List Int) := moreV p (rkV p) p.size.toNat [] (byesV p)
abbrev itL (p : Pl) (a : PA) (bp br : Nat) (rA : Option Addr) (rc : Nat) : List Ent := [.blk bp 62 (p.cells a), .blk br 22 [.slice rA (p.ps.length + 1) rc], .own rA rc 3 1 (p.ps.length + 1) (enI (rkV p)), .ro a.pA 3 p.ps.length (encPs p.ps), .ro a.lA 1 p.lots.length (enI p.lots)]
abbrev moL (lb bp by_ br bm : Nat) : List Ent := [.blk by_ 174 [.func (.yield lb) #[] #[]], .blk bm 120 [.func (.func 94) #[] #[.pointer (some ⟨bp, 0, none⟩), .pointer (some ⟨by_, 0, none⟩), .pointer (some ⟨br, 0, none⟩), .pointer (some ⟨bm, 0, none⟩)]]]
structure MRD (Y : Type) where
  (r : Bool) (y : Y) (sp : List Value)
abbrev Rounds {Y : Type} (p : Pl) (D : List (List Int)) (ψ : Nat → Y → Prop) (J : Nat → Y → List Ent) (ψx : Y → Prop) (Jx : Y → List Ent) (Lp : List Ent) (w0 : World) (lb : Nat) : Prop :=
  ∀ (R : List Ent) (k : Nat) (x : Option Addr × Nat) (y : Y) (w : World), k < D.length → True → ψ k y → St w0 w ([.own x.1 x.2 3 1 p.size.toNat (enI (D.getD k []))] ++ (Lp ++ (J k y ++ R))) → RoundOf Tryz.prog lb [.slice x.1 p.size.toNat x.2] w (RR ψ (fun k y => J k y ++ R) ψx (fun y => Jx y ++ R) Lp w0 k)
abbrev moreArgs (g : Nat) (n S : Nat) (byes : Int) (bp by_ br bm : Nat) : List Value := [.slice (some ⟨g, 0, none⟩) n S, .int .i64 byes] ++ [.pointer (some ⟨bp, 0, none⟩), .pointer (some ⟨by_, 0, none⟩), .pointer (some ⟨br, 0, none⟩), .pointer (some ⟨bm, 0, none⟩)]
abbrev MoreOk {Y : Type} (p : Pl) (D : List (List Int)) (ψ : Nat → Y → Prop) (J : Nat → Y → List Ent) (ψx : Y → Prop) (Jx : Y → List Ent) (Lp : List Ent) (w0 : World) (lb g bp by_ br bm : Nat) (f : Nat) : Prop :=
  ∀ (l : List Int) (byes : Int) (sp : List Value) (k0 : Nat) (y : Y) (w : World), (l.length : Int) + f = p.size → sp.length = f → (0 ≤ byes ∧ byes ≤ 100) → (∀ x ∈ l, InP p x) →
    (∀ (j : Nat) (v : List Int), (moreV p (rkV p) f l byes)[j]? = some v → D[k0 + j]? = some v) → ψ k0 y → St w0 w (.blk g 3 (l.map vI ++ sp) :: (moL lb bp by_ br bm ++ (Lp ++ J k0 y))) →
    Calls Tryz.prog 94 (moreArgs g l.length p.size.toNat byes bp by_ br bm).toArray w fun e w' => ∃ z : MRD Y, (z.sp.length = f ∧ cond z.r (ψ (k0 + (moreV p (rkV p) f l byes).length) z.y) (ψx z.y)) ∧ e = .returned (.bool z.r) ∧
      St w0 w' (.blk g 3 (l.map vI ++ z.sp) :: (moL lb bp by_ br bm ++ (Lp ++ cond z.r (J (k0 + (moreV p (rkV p) f l byes).length) z.y) (Jx z.y))))
theorem At.left {e : Ent} {A M : List Ent} (h : At A e M) (B : List Ent) : At (A ++ B) e (M ++ B) := by
  induction h with
  | here => exact .here
  | there _ ih => exact .there ih
theorem SubL.app_nil : ∀ (A : List Ent), SubL A (A ++ [])
  | A => by rw [List.append_nil]; exact SubL.refl _
theorem SubL.rot : ∀ (R A : List Ent), SubL (A ++ R) (R ++ A)
  | R, [] => SubL.app_nil R
  | R, a :: A => SubL.cons (At.app R A) (SubL.rot R A)
theorem SubL.back (R A B : List Ent) : SubL (A ++ (B ++ R)) (R ++ (A ++ B)) := by
  rw [← List.append_assoc]; exact SubL.rot R (A ++ B)
theorem SubL.front (R A B : List Ent) : SubL (R ++ (A ++ B)) (A ++ (B ++ R)) := by
  rw [← List.append_assoc A]; exact SubL.rot (A ++ B) R
section
variable {Y : Type} (p : Pl) (a : PA) (hq : p.Ok) (hpn : p.ps.length ≤ 9223372036854775807) (hln : p.lots.length ≤ 9223372036854775807) (hpc : p.ps.length ≤ a.pc) (D : List (List Int)) (ψ : Nat → Y → Prop) (J : Nat → Y → List Ent) (ψx : Y → Prop) (Jx : Y → List Ent) (w0 : World) (lb g bp by_ br bm : Nat) (rA : Option Addr) (rc : Nat)
set_option maxHeartbeats 2000000 in
include hq in
theorem more_zero (hround : Rounds p D ψ J ψx Jx (itL p a bp br rA rc) w0 lb) : MoreOk p D ψ J ψx Jx (itL p a bp br rA rc) w0 lb g bp by_ br bm 0 := by
  intro l byes sp k0 y w hlen hspl hby hin hD hy hst
  have hz := hq.z
  obtain rfl : sp = [] := List.eq_nil_of_length_eq_zero hspl
  have hB : ∀ w, (Ent.blk g 3 (l.map vI ++ [])).ok w → Rd w (some ⟨g, 0, none⟩) 1 l.length (enI l) := fun w h => rd_blk (pre := []) (sp := []) rfl (by omega) w h
  have hSl : p.size.toNat = l.length := by omega
  have hDl : D[k0]? = some l := hD 0 l rfl
  have hDk : D.getD k0 [] = l := by rw [List.getD_eq_getElem?_getD, hDl]; rfl
  have hkN : k0 < D.length := (List.getElem?_eq_some_iff.1 hDl).1
  refine enM (vs := moreArgs g l.length p.size.toNat byes bp by_ br bm) Tryz.func94 Tryz.ntmps94 hst (h := ?_)
  refine sq (h := ?_)
  refine rg (h := ?_)
  refine wy asg ?_
  refine nl (h := ?_)
  refine q_seq (h := ?_)
  refine sq (h := ?_)
  refine rg (h := ?_)
  refine wy mv ?_
  refine wy lenS ?_
  refine wy asg ?_
  refine nl (h := ?_)
  refine q_seq (h := ?_)
  refine sq (h := ?_)
  refine sq (h := ?_)
  refine rg (h := ?_)
  refine wy mv ?_
  refine wy (by first | exact fa | exact faE) ?_
  refine wy (by first | exact ld | exact ldE) ?_
  refine wy eql ?_
  refine nl (h := ?_)
  refine q_seq (h := ?_)
  refine cd (by exact rfl) (fun h0 => ?_) (fun h0 => ?_)
  · skip
    refine sq (h := ?_)
    refine rgD (by kernel_rfl) [(1000000, .blk by_ 174 [.func (.yield lb) #[] #[]])] (by repeat (first | exact HS.nil | (apply HS.keep; (repeat (first | exact At.here | apply At.there))) | (apply HS.ro; (repeat (first | exact Rds.ro | exact Rds.own | apply Rds.there))))) (h := ?_)
    refine tk 0 (hy := (by first | exact ld | exact ldE)) (h := ?_)
    refine tk 1 (hy := mv) (h := ?_)
    refine one 2 (h := ?_)
    refine cl (hc := fun w hS => C_CloneInts (some ⟨g, 0, none⟩) l.length p.size.toNat (enI l) w (hS.get (Rds.any hB)) (by omega)) (h := fun x0 _ => ?_)
    refine nx (h := ?_)
    refine one 3 (h := ?_)
    refine yl (lb := lb) (Z := Bool × Y) (Φ := fun r => cond r.1 (ψ (k0 + 1) r.2) (ψx r.2)) (val := fun r => .bool r.1) (post := fun r => .blk g 3 (l.map vI ++ []) :: (moL lb bp by_ br bm ++ (itL p a bp br rA rc ++ cond r.1 (J (k0 + 1) r.2) (Jx r.2)))) (by exact rfl) (by repeat (first | exact Evs.nil | (apply Evs.cons; exact rfl))) rfl (fun w hS => ?_) (fun r hr => ?_)
    · have hround := hround (.blk g 3 (l.map vI ++ []) :: moL lb bp by_ br bm) k0 x0 y w hkN trivial hy
      rw [hDk, hSl] at hround
      obtain ⟨fn, tmps, asg, bo, hy2, hR⟩ := hround (hS.sub (SubL.cons .here (SubL.back (.blk g 3 (l.map vI ++ []) :: moL lb bp by_ br bm) _ _)))
      refine ⟨fn, tmps, asg, bo, hy2, hR.mono fun e w' he => ?_⟩
      rcases he with ⟨rfl, y, hy, hs⟩ | ⟨rfl, y, hy, hs⟩
      · exact ⟨(true, y), hy, rfl, hs.sub (SubL.front (.blk g 3 (l.map vI ++ []) :: moL lb bp by_ br bm) _ _)⟩
      · exact ⟨(false, y), hy, rfl, hs.sub (SubL.front (.blk g 3 (l.map vI ++ []) :: moL lb bp by_ br bm) _ _)⟩
    refine nx (h := ?_)
    refine tk 4 (hy := asg) (h := ?_)
    refine dn (h := ?_)
    refine q_seq (h := ?_)
    refine rtn (h := ?_)
    refine q_then_ret (h := ?_)
    refine q_retM0 (hR := ?_)
    obtain ⟨rb, ry⟩ := r
    exact fun w hS => ⟨⟨rb, ry, []⟩, ⟨rfl, hr⟩, rfl, hS⟩
  · skip
    exfalso
    simp only [decide_eq_false_iff_not] at h0
    omega
structure MoZ (Y : Type) where
  (i : Nat) (y : Y) (sp : List Value)
def stepV (p : Pl) (f : Nat) (l : List Int) (byes n : Int) : List (List Int) := bif skipV p l byes n then [] else moreV p (rkV p) f (l ++ [n]) (leftB byes n)
def cntVD (p : Pl) (f : Nat) (l : List Int) (byes : Int) (i : Nat) : Nat := (((rkV p).take i).flatMap (stepV p f l byes)).length
omit Y in
theorem cnt_succ {f : Nat} {l : List Int} {byes n : Int} {i : Nat} (h : (rkV p)[i]? = some n) : cntVD p f l byes (i + 1) = cntVD p f l byes i + (stepV p f l byes n).length := by
  unfold cntVD
  rw [List.take_add_one, h, List.flatMap_append, List.length_append]
  simp
omit Y in
theorem more_at {f : Nat} {l : List Int} {byes n : Int} {i : Nat} (h : (rkV p)[i]? = some n) {j : Nat} {v : List Int} (hj : (stepV p f l byes n)[j]? = some v) : (moreV p (rkV p) (f + 1) l byes)[cntVD p f l byes i + j]? = some v := by
  have hi := (List.getElem?_eq_some_iff.1 h).1
  have hs : rkV p = (rkV p).take i ++ n :: (rkV p).drop (i + 1) := by
    have hd := List.drop_eq_getElem_cons hi
    rw [(List.getElem?_eq_some_iff.1 h).2] at hd
    rw [← hd, List.take_append_drop]
  have hm : moreV p (rkV p) (f + 1) l byes = (rkV p).flatMap (stepV p f l byes) := rfl
  rw [hm]
  conv => lhs; rw [hs]
  rw [List.flatMap_append, List.flatMap_cons, List.getElem?_append_right (by unfold cntVD; omega)]
  have e : cntVD p f l byes i + j - (((rkV p).take i).flatMap (stepV p f l byes)).length = j := by unfold cntVD; omega
  rw [e, List.getElem?_append_left (List.getElem?_eq_some_iff.1 hj).1]
  exact hj
set_option maxRecDepth 100000 in
set_option maxHeartbeats 4000000 in
include hq hpn hln hpc in
theorem more_succ (f : Nat) (ih : MoreOk p D ψ J ψx Jx (itL p a bp br rA rc) w0 lb g bp by_ br bm f) : MoreOk p D ψ J ψx Jx (itL p a bp br rA rc) w0 lb g bp by_ br bm (f + 1) := by
  intro l byes sp k0 y w hlen hspl hby hin hD hy hst
  have hz := hq.z
  have hqn := hq.n
  have hrl := rk_len p
  have hB : ∀ sp : List Value, ∀ w, (Ent.blk g 3 (l.map vI ++ sp)).ok w → Rd w (some ⟨g, 0, none⟩) 1 l.length (enI l) := fun sp w h => rd_blk (pre := []) (sp := sp) rfl (by omega) w h
  refine enM (vs := moreArgs g l.length p.size.toNat byes bp by_ br bm) Tryz.func94 Tryz.ntmps94 hst (h := ?_)
  refine sq (h := ?_)
  refine rg (h := ?_)
  refine wy asg ?_
  refine nl (h := ?_)
  refine q_seq (h := ?_)
  refine sq (h := ?_)
  refine rg (h := ?_)
  refine wy mv ?_
  refine wy lenS ?_
  refine wy asg ?_
  refine nl (h := ?_)
  refine q_seq (h := ?_)
  refine sq (h := ?_)
  refine sq (h := ?_)
  refine rg (h := ?_)
  refine wy mv ?_
  refine wy (by first | exact fa | exact faE) ?_
  refine wy (by first | exact ld | exact ldE) ?_
  refine wy eql ?_
  refine nl (h := ?_)
  refine q_seq (h := ?_)
  refine cd (by exact rfl) (fun h0 => ?_) (fun h0 => ?_)
  · skip
    exfalso
    simp only [decide_eq_true_eq] at h0
    omega
  · skip
    refine skp (h := ?_)
    refine q_seq (h := ?_)
    refine sq (h := ?_)
    refine sq (h := ?_)
    refine rg (h := ?_)
    refine wy (by first | exact ld | exact ldE) ?_
    refine wy lenS ?_
    refine wy mv ?_
    refine nl (h := ?_)
    refine q_seq (h := ?_)
    refine bk (h := ?_)
    refine lp (X := MoZ Y) (I := fun z => z.i ≤ (rkV p).length ∧ z.sp.length = f + 1 ∧ ψ (k0 + cntVD p f l byes z.i) z.y) (le := fun z => [(0, .slice (some ⟨g, 0, none⟩) l.length p.size.toNat), (1, .int .i64 byes), (2, .pointer (some ⟨bp, 0, none⟩)), (3, .pointer (some ⟨by_, 0, none⟩)), (4, .pointer (some ⟨br, 0, none⟩)), (5, .pointer (some ⟨bm, 0, none⟩)), (9, .int .i64 l.length), (23, .slice rA (p.ps.length + 1) rc), (24, .int .i64 ((rkV p).length : Int)), (25, .int .i64 z.i)]) (Le := fun z => .blk g 3 (l.map vI ++ z.sp) :: (moL lb bp by_ br bm ++ (itL p a bp br rA rc ++ J (k0 + cntVD p f l byes z.i) z.y))) (μ := fun z => (rkV p).length - z.i) ⟨0, y, sp⟩ ⟨Nat.zero_le _, hspl, hy⟩ (by
      rw [hrl]
      repeat (first | exact trivial | refine ⟨rfl, ?_⟩)) (SubL.refl _) (fun z hz => ?_)
    obtain ⟨hz1, hz2, hz3⟩ := hz
    refine sq (h := ?_)
    refine rg (h := ?_)
    refine wy lss ?_
    refine nl (h := ?_)
    refine q_seq (h := ?_)
    refine sq (h := ?_)
    refine cd (by exact rfl) (fun h1 => ?_) (fun h1 => ?_)
    · skip
      have hkn : z.i < (rkV p).length := by simp only [decide_eq_true_eq] at h1; omega
      obtain ⟨n, hn1⟩ : ∃ n, (rkV p)[z.i]? = some n := ⟨_, List.getElem?_eq_getElem hkn⟩
      have hne := enI_at hn1
      have hnr := rk_mem.1 (List.mem_of_getElem? hn1)
      have hcs := cnt_succ p (f := f) (l := l) (byes := byes) hn1
      refine skp (h := ?_)
      refine q_seq (h := ?_)
      refine sq (h := ?_)
      refine bk (h := ?_)
      refine sq (h := ?_)
      refine rg (h := ?_)
      refine wy (ix (A := rA) (m := p.ps.length + 1)) ?_
      refine wy (ldE (A := rA) (hk := hne)) ?_
      refine wy asg ?_
      refine nl (h := ?_)
      refine q_seq (h := ?_)
      refine sq (h := ?_)
      refine rg (h := ?_)
      refine wy mv ?_
      refine wy asg ?_
      refine nl (h := ?_)
      refine q_seq (h := ?_)
      refine ct (X := Unit) (fun _ => True) (fun _ => [(0, .slice (some ⟨g, 0, none⟩) l.length p.size.toNat), (1, .int .i64 byes), (2, .pointer (some ⟨bp, 0, none⟩)), (3, .pointer (some ⟨by_, 0, none⟩)), (4, .pointer (some ⟨br, 0, none⟩)), (5, .pointer (some ⟨bm, 0, none⟩)), (9, .int .i64 l.length), (11, .int .i64 n), (12, .int .i64 (leftB byes n)), (23, .slice rA (p.ps.length + 1) rc), (24, .int .i64 ((rkV p).length : Int)), (25, .int .i64 z.i)]) (fun _ => .blk g 3 (l.map vI ++ z.sp) :: (moL lb bp by_ br bm ++ (itL p a bp br rA rc ++ J (k0 + cntVD p f l byes z.i) z.y))) (h1 := ?_) (h2 := ?_)
      · skip
        refine sq (h := ?_)
        refine rg (h := ?_)
        refine wy mv ?_
        refine wy eql ?_
        refine nl (h := ?_)
        refine q_seq (h := ?_)
        refine cd (by exact rfl) (fun h2 => ?_) (fun h2 => ?_)
        · skip
          have hlf : leftB byes n = byes - 1 := by rw [leftB, h2]; rfl
          refine rg (h := ?_)
          refine wy mv ?_
          refine wy subI ?_
          refine wy asg ?_
          refine nl (h := ?_)
          exact ctn () trivial (by rw [hlf]; repeat (first | exact trivial | refine ⟨rfl, ?_⟩)) (SubL.refl _)
        · skip
          have hlf : leftB byes n = byes := by rw [leftB, h2]; rfl
          refine skp (h := ?_)
          exact ctn () trivial (by rw [hlf]; repeat (first | exact trivial | refine ⟨rfl, ?_⟩)) (SubL.refl _)
      rintro ⟨⟩ -
      refine sq (h := ?_)
      refine ct (X := Bool) (fun s => s = skipV p l byes n) (fun s => [(0, .slice (some ⟨g, 0, none⟩) l.length p.size.toNat), (1, .int .i64 byes), (2, .pointer (some ⟨bp, 0, none⟩)), (3, .pointer (some ⟨by_, 0, none⟩)), (4, .pointer (some ⟨br, 0, none⟩)), (5, .pointer (some ⟨bm, 0, none⟩)), (9, .int .i64 l.length), (11, .int .i64 n), (12, .int .i64 (leftB byes n)), (23, .slice rA (p.ps.length + 1) rc), (24, .int .i64 ((rkV p).length : Int)), (25, .int .i64 z.i), (67, .bool s)]) (fun _ => .blk g 3 (l.map vI ++ z.sp) :: (moL lb bp by_ br bm ++ (itL p a bp br rA rc ++ J (k0 + cntVD p f l byes z.i) z.y))) (h1 := ?_) (h2 := ?_)
      · skip
        refine rgD (by kernel_rfl) [(1000000, .blk bp 62 (p.cells a)), (1000000, .blk g 3 (l.map vI ++ z.sp))] (by repeat (first | exact HS.nil | (apply HS.keep; (repeat (first | exact At.here | apply At.there))) | (apply HS.ro; (repeat (first | exact Rds.ro | exact Rds.own | apply Rds.there))))) (h := ?_)
        refine tk 0 (hy := mv) (h := ?_)
        refine tk 1 (hy := lss) (h := ?_)
        refine tk 2 (hy := mv) (h := ?_)
        refine brH (g := 36) (by exact rfl) (fun hb3 => ?_) (fun hb3 => ?_)
        · skip
          refine tkS 3 (h := ?_)
          refine tkS 4 (h := ?_)
          refine tkS 5 (h := ?_)
          refine tkS 6 (h := ?_)
          refine tkS 7 (h := ?_)
          refine tkS 8 (h := ?_)
          refine tkS 9 (h := ?_)
          refine tk 10 (hy := (by first | exact pkT | exact pkF)) (h := ?_)
          refine tk 11 (hy := mv) (h := ?_)
          refine tkS 12 (h := ?_)
          refine tkS 13 (h := ?_)
          refine tkS 14 (h := ?_)
          refine tkS 15 (h := ?_)
          refine tkS 16 (h := ?_)
          refine tk 17 (hy := (by first | exact pkT | exact pkF)) (h := ?_)
          refine tk 18 (hy := mv) (h := ?_)
          refine tkS 19 (h := ?_)
          refine tkS 20 (h := ?_)
          refine tkS 21 (h := ?_)
          refine tkS 22 (h := ?_)
          refine tkS 23 (h := ?_)
          refine tkS 24 (h := ?_)
          refine tkS 25 (h := ?_)
          refine tkS 26 (h := ?_)
          refine tkS 27 (h := ?_)
          refine tkS 28 (h := ?_)
          refine tkS 29 (h := ?_)
          refine tkS 30 (h := ?_)
          refine tkS 31 (h := ?_)
          refine tkS 32 (h := ?_)
          refine tk 33 (hy := (by first | exact pkT | exact pkF)) (h := ?_)
          refine dn (h := ?_)
          refine ctnL _ sbz_ (SubL.refl _) ?_
          simp only [skipV, hasV, *]
          try simp
        · skip
          refine tk 3 (hy := mv) (h := ?_)
          refine tk 4 (hy := neq) (h := ?_)
          refine tk 5 (hy := mv) (h := ?_)
          refine brH (g := 39) (by exact rfl) (fun hb4 => ?_) (fun hb4 => ?_)
          · skip
            refine tk 6 (hy := mv) (h := ?_)
            refine tk 7 (hy := mv) (h := ?_)
            refine one 8 (h := ?_)
            refine un (h := ?_)
            refine cl0 (hc := fun w hS => C_slices_Contains l n (some ⟨g, 0, none⟩) l.length p.size.toNat w (hS.get (Rds.any (hB z.sp))) (by omega)) (h := ?_)
            refine nx (h := ?_)
            refine tk 9 (hy := (by first | exact pkT | exact pkF)) (h := ?_)
            refine tk 10 (hy := (by first | exact pkT | exact pkF)) (h := ?_)
            refine tk 11 (hy := mv) (h := ?_)
            refine brH (g := 45) (by exact rfl) (fun hb5 => ?_) (fun hb5 => ?_)
            · skip
              refine tkS 12 (h := ?_)
              refine tkS 13 (h := ?_)
              refine tkS 14 (h := ?_)
              refine tkS 15 (h := ?_)
              refine tkS 16 (h := ?_)
              refine tk 17 (hy := (by first | exact pkT | exact pkF)) (h := ?_)
              refine tk 18 (hy := mv) (h := ?_)
              refine tkS 19 (h := ?_)
              refine tkS 20 (h := ?_)
              refine tkS 21 (h := ?_)
              refine tkS 22 (h := ?_)
              refine tkS 23 (h := ?_)
              refine tkS 24 (h := ?_)
              refine tkS 25 (h := ?_)
              refine tkS 26 (h := ?_)
              refine tkS 27 (h := ?_)
              refine tkS 28 (h := ?_)
              refine tkS 29 (h := ?_)
              refine tkS 30 (h := ?_)
              refine tkS 31 (h := ?_)
              refine tkS 32 (h := ?_)
              refine tk 33 (hy := (by first | exact pkT | exact pkF)) (h := ?_)
              refine dn (h := ?_)
              refine ctnL _ sbz_ (SubL.refl _) ?_
              simp only [skipV, hasV, *]
              try simp
            · skip
              refine tk 12 (hy := (by first | exact ldA | exact ldEA)) (h := ?_)
              refine tk 13 (hy := mv) (h := ?_)
              refine tk 14 (hy := mv) (h := ?_)
              refine one 15 (h := ?_)
              refine un (h := ?_)
              refine cl0 (hc := fun w hS => C_seat p a l.length n hq w ⟨hS.get (by repeat (first | exact Rds.ro | apply Rds.there)), hS.get (by repeat (first | exact Rds.ro | apply Rds.there)), hpn, hln, hpc⟩) (h := ?_)
              refine nx (h := ?_)
              refine tk 16 (hy := notB) (h := ?_)
              refine tk 17 (hy := (by first | exact pkT | exact pkF)) (h := ?_)
              refine tk 18 (hy := mv) (h := ?_)
              refine brH (g := 52) (by exact rfl) (fun hb6 => ?_) (fun hb6 => ?_)
              · skip
                refine tkS 19 (h := ?_)
                refine tkS 20 (h := ?_)
                refine tkS 21 (h := ?_)
                refine tkS 22 (h := ?_)
                refine tkS 23 (h := ?_)
                refine tkS 24 (h := ?_)
                refine tkS 25 (h := ?_)
                refine tkS 26 (h := ?_)
                refine tkS 27 (h := ?_)
                refine tkS 28 (h := ?_)
                refine tkS 29 (h := ?_)
                refine tkS 30 (h := ?_)
                refine tkS 31 (h := ?_)
                refine tkS 32 (h := ?_)
                refine tk 33 (hy := (by first | exact pkT | exact pkF)) (h := ?_)
                refine dn (h := ?_)
                refine ctnL _ sbz_ (SubL.refl _) ?_
                simp only [skipV, hasV, *]
                try simp
              · skip
                refine tk 19 (hy := mv) (h := ?_)
                refine tk 20 (hy := remI) (h := ?_)
                refine tk 21 (hy := eql) (h := ?_)
                refine tk 22 (hy := mv) (h := ?_)
                refine brH (g := 56) (by exact rfl) (fun hb7 => ?_) (fun hb7 => ?_)
                · skip
                  have hk1 : (l.length : Int) % 2 = 1 := of_decide_eq_true hb7
                  obtain ⟨x1, hx1⟩ : ∃ x, l[l.length - 1]? = some x := ⟨_, List.getElem?_eq_getElem (by omega)⟩
                  have hx1r := hin x1 (List.mem_of_getElem? hx1)
                  have hlast : lastV l = x1 := by rw [lastV, List.getLast?_eq_getElem?, hx1]; rfl
                  have hx1e : (enI l)[((l.length : Int) - 1).toNat]? = some [.int .i64 x1] := by rw [show ((l.length : Int) - 1).toNat = l.length - 1 by omega]; exact enI_at hx1
                  refine tk 23 (hy := (by first | exact ldA | exact ldEA)) (h := ?_)
                  refine tk 24 (hy := mv) (h := ?_)
                  refine tk 25 (hy := mv) (h := ?_)
                  refine tk 26 (hy := subI) (h := ?_)
                  refine tk 27 (hy := ix (A := some ⟨g, 0, none⟩) (m := l.length) (hr := (by repeat (first | exact Rds.any (hB z.sp) | apply Rds.there)))) (h := ?_)
                  refine tk 28 (hy := ldE (A := some ⟨g, 0, none⟩) (hr := (by repeat (first | exact Rds.any (hB z.sp) | apply Rds.there))) (hk := hx1e)) (h := ?_)
                  refine tk 29 (hy := mv) (h := ?_)
                  refine one 30 (h := ?_)
                  refine un (h := ?_)
                  refine cl0 (hc := fun w hS => C_match p a x1 n hq hx1r hnr w ⟨hS.get (by repeat (first | exact Rds.ro | apply Rds.there)), hS.get (by repeat (first | exact Rds.ro | apply Rds.there)), hpn, hln, hpc⟩) (h := ?_)
                  rw [← hlast]
                  refine nx (h := ?_)
                  refine tk 31 (hy := notB) (h := ?_)
                  refine tk 32 (hy := (by first | exact pkT | exact pkF)) (h := ?_)
                  refine tk 33 (hy := (by first | exact pkT | exact pkF)) (h := ?_)
                  refine dn (h := ?_)
                  refine ctnL _ sbz_ (SubL.refl _) ?_
                  simp only [skipV, hasV, *]
                  try simp
                · skip
                  refine tkS 23 (h := ?_)
                  refine tkS 24 (h := ?_)
                  refine tkS 25 (h := ?_)
                  refine tkS 26 (h := ?_)
                  refine tkS 27 (h := ?_)
                  refine tkS 28 (h := ?_)
                  refine tkS 29 (h := ?_)
                  refine tkS 30 (h := ?_)
                  refine tkS 31 (h := ?_)
                  refine tk 32 (hy := (by first | exact pkT | exact pkF)) (h := ?_)
                  refine tk 33 (hy := (by first | exact pkT | exact pkF)) (h := ?_)
                  refine dn (h := ?_)
                  refine ctnL _ sbz_ (SubL.refl _) ?_
                  simp only [skipV, hasV, *]
                  try simp
          · skip
            refine tkS 6 (h := ?_)
            refine tkS 7 (h := ?_)
            refine tkS 8 (h := ?_)
            refine tk 9 (hy := (by first | exact pkT | exact pkF)) (h := ?_)
            refine tk 10 (hy := (by first | exact pkT | exact pkF)) (h := ?_)
            refine tk 11 (hy := mv) (h := ?_)
            refine tk 12 (hy := (by first | exact ldA | exact ldEA)) (h := ?_)
            refine tk 13 (hy := mv) (h := ?_)
            refine tk 14 (hy := mv) (h := ?_)
            refine one 15 (h := ?_)
            refine un (h := ?_)
            refine cl0 (hc := fun w hS => C_seat p a l.length n hq w ⟨hS.get (by repeat (first | exact Rds.ro | apply Rds.there)), hS.get (by repeat (first | exact Rds.ro | apply Rds.there)), hpn, hln, hpc⟩) (h := ?_)
            refine nx (h := ?_)
            refine tk 16 (hy := notB) (h := ?_)
            refine tk 17 (hy := (by first | exact pkT | exact pkF)) (h := ?_)
            refine tk 18 (hy := mv) (h := ?_)
            refine brH (g := 52) (by exact rfl) (fun hb8 => ?_) (fun hb8 => ?_)
            · skip
              refine tkS 19 (h := ?_)
              refine tkS 20 (h := ?_)
              refine tkS 21 (h := ?_)
              refine tkS 22 (h := ?_)
              refine tkS 23 (h := ?_)
              refine tkS 24 (h := ?_)
              refine tkS 25 (h := ?_)
              refine tkS 26 (h := ?_)
              refine tkS 27 (h := ?_)
              refine tkS 28 (h := ?_)
              refine tkS 29 (h := ?_)
              refine tkS 30 (h := ?_)
              refine tkS 31 (h := ?_)
              refine tkS 32 (h := ?_)
              refine tk 33 (hy := (by first | exact pkT | exact pkF)) (h := ?_)
              refine dn (h := ?_)
              refine ctnL _ sbz_ (SubL.refl _) ?_
              simp only [skipV, hasV, *]
              try simp
            · skip
              refine tk 19 (hy := mv) (h := ?_)
              refine tk 20 (hy := remI) (h := ?_)
              refine tk 21 (hy := eql) (h := ?_)
              refine tk 22 (hy := mv) (h := ?_)
              refine brH (g := 56) (by exact rfl) (fun hb9 => ?_) (fun hb9 => ?_)
              · skip
                have hk1 : (l.length : Int) % 2 = 1 := of_decide_eq_true hb9
                obtain ⟨x1, hx1⟩ : ∃ x, l[l.length - 1]? = some x := ⟨_, List.getElem?_eq_getElem (by omega)⟩
                have hx1r := hin x1 (List.mem_of_getElem? hx1)
                have hlast : lastV l = x1 := by rw [lastV, List.getLast?_eq_getElem?, hx1]; rfl
                have hx1e : (enI l)[((l.length : Int) - 1).toNat]? = some [.int .i64 x1] := by rw [show ((l.length : Int) - 1).toNat = l.length - 1 by omega]; exact enI_at hx1
                refine tk 23 (hy := (by first | exact ldA | exact ldEA)) (h := ?_)
                refine tk 24 (hy := mv) (h := ?_)
                refine tk 25 (hy := mv) (h := ?_)
                refine tk 26 (hy := subI) (h := ?_)
                refine tk 27 (hy := ix (A := some ⟨g, 0, none⟩) (m := l.length) (hr := (by repeat (first | exact Rds.any (hB z.sp) | apply Rds.there)))) (h := ?_)
                refine tk 28 (hy := ldE (A := some ⟨g, 0, none⟩) (hr := (by repeat (first | exact Rds.any (hB z.sp) | apply Rds.there))) (hk := hx1e)) (h := ?_)
                refine tk 29 (hy := mv) (h := ?_)
                refine one 30 (h := ?_)
                refine un (h := ?_)
                refine cl0 (hc := fun w hS => C_match p a x1 n hq hx1r hnr w ⟨hS.get (by repeat (first | exact Rds.ro | apply Rds.there)), hS.get (by repeat (first | exact Rds.ro | apply Rds.there)), hpn, hln, hpc⟩) (h := ?_)
                rw [← hlast]
                refine nx (h := ?_)
                refine tk 31 (hy := notB) (h := ?_)
                refine tk 32 (hy := (by first | exact pkT | exact pkF)) (h := ?_)
                refine tk 33 (hy := (by first | exact pkT | exact pkF)) (h := ?_)
                refine dn (h := ?_)
                refine ctnL _ sbz_ (SubL.refl _) ?_
                simp only [skipV, hasV, *]
                try simp
              · skip
                refine tkS 23 (h := ?_)
                refine tkS 24 (h := ?_)
                refine tkS 25 (h := ?_)
                refine tkS 26 (h := ?_)
                refine tkS 27 (h := ?_)
                refine tkS 28 (h := ?_)
                refine tkS 29 (h := ?_)
                refine tkS 30 (h := ?_)
                refine tkS 31 (h := ?_)
                refine tk 32 (hy := (by first | exact pkT | exact pkF)) (h := ?_)
                refine tk 33 (hy := (by first | exact pkT | exact pkF)) (h := ?_)
                refine dn (h := ?_)
                refine ctnL _ sbz_ (SubL.refl _) ?_
                simp only [skipV, hasV, *]
                try simp
      intro s hs'
      refine cd (by exact rfl) (fun h10 => ?_) (fun h10 => ?_)
      · skip
        have hsk : skipV p l byes n = true := hs'.symm.trans h10
        have hst0 : stepV p f l byes n = [] := by rw [stepV, hsk]; rfl
        refine et (h := ?_)
        refine q_then_exit (h := ?_)
        refine q_blk_hit (h := ?_)
        refine q_seq (h := ?_)
        refine rg (h := ?_)
        refine wy addI ?_
        refine wy mv ?_
        refine nl (h := ?_)
        first
          | (refine rn (x := z) ⟨z.i + 1, z.y, z.sp⟩ ⟨by dsimp only; omega, hz2, by dsimp only; rw [hcs, hst0]; exact hz3⟩ (by dsimp only; omega) sbz_ (by dsimp only; rw [hcs, hst0]; exact SubL.refl _))
          | (refine rn (x := z) ⟨z.i + 1, ry, .int .i64 n :: rsp⟩ ⟨by dsimp only; omega, by simp only [List.length_cons]; exact congrArg (· + 1) hr1, by dsimp only; rw [hnxt]; exact hr2⟩ (by dsimp only; omega) sbz_ (by
              dsimp only
              rw [hnxt]
              have e : l.map vI ++ .int .i64 n :: rsp = (l ++ [n]).map vI ++ rsp := by rw [List.map_append, List.append_assoc]; rfl
              rw [e]
              exact SubL.refl _))
      · skip
        have hsk : skipV p l byes n = false := hs'.symm.trans h10
        have hst0 : stepV p f l byes n = moreV p (rkV p) f (l ++ [n]) (leftB byes n) := by rw [stepV, hsk]; rfl
        have hl0 : 0 ≤ leftB byes n := by
          simp only [skipV, Bool.or_eq_false_iff, decide_eq_false_iff_not] at hsk
          omega
        have hl1 : leftB byes n ≤ 100 := by unfold leftB; cases decide (n = -1) <;> simp only [cond_true, cond_false] <;> omega
        obtain ⟨s0, sp1, hsp1⟩ : ∃ s0 sp1, z.sp = s0 :: sp1 := by
          cases hh : z.sp with
          | nil => rw [hh] at hz2; simp at hz2
          | cons s t => exact ⟨s, t, rfl⟩
        have hcs2 : (l.map vI ++ z.sp).set l.length (.int .i64 n) = (l ++ [n]).map vI ++ sp1 := by
          rw [hsp1, List.set_append_right _ _ (by simp), List.length_map, Nat.sub_self, List.set_cons_zero, List.map_append, List.append_assoc]; rfl
        have hspl1 : sp1.length = f := by rw [hsp1] at hz2; simpa using hz2
        refine skp (h := ?_)
        refine q_seq (h := ?_)
        refine sq (h := ?_)
        refine rgD (by kernel_rfl) [(1000000, .blk bm 120 [.func (.func 94) #[] #[.pointer (some ⟨bp, 0, none⟩), .pointer (some ⟨by_, 0, none⟩), .pointer (some ⟨br, 0, none⟩), .pointer (some ⟨bm, 0, none⟩)]])] (by repeat (first | exact HS.nil | (apply HS.keep; (repeat (first | exact At.here | apply At.there))) | (apply HS.ro; (repeat (first | exact Rds.ro | exact Rds.own | apply Rds.there))))) (h := ?_)
        refine tk 0 (hy := (by first | exact ld | exact ldE)) (h := ?_)
        refine tk 1 (hy := mv) (h := ?_)
        refine tk 2 (hy := mv) (h := ?_)
        refine tk 5 (hy := mv) (h := ?_)
        refine one 3 (h := ?_)
        refine bs (h := fun b0 => ?_)
        refine nx (h := ?_)
        refine one 4 (h := ?_)
        refine apIn (g := g) (m := l.length) (c := p.size.toNat) (v := .int .i64 n) (ha := atz_) (hr := (by repeat (first | exact Rds.own | apply Rds.there))) (hroom := by omega) (hlen := by rw [List.length_append, List.length_map, hz2]; omega) (h := ?_)
        rw [hcs2]
        refine nx (h := ?_)
        refine one 6 (h := ?_)
        refine clX (f := 94) inferInstance (fi := []) (cap := [.pointer (some ⟨bp, 0, none⟩), .pointer (some ⟨by_, 0, none⟩), .pointer (some ⟨br, 0, none⟩), .pointer (some ⟨bm, 0, none⟩)]) (by exact rfl) (by repeat (first | exact Evs.nil | (apply Evs.cons; exact rfl))) (fun w hS => by
          have hc := ih (l ++ [n]) (leftB byes n) sp1 (k0 + cntVD p f l byes z.i) z.y w (by rw [List.length_append]; simp; omega) hspl1 ⟨hl0, hl1⟩ (fun x hx => by
            rcases List.mem_append.1 hx with hx | hx
            · exact hin x hx
            · simp only [List.mem_singleton] at hx; subst hx; exact hnr) (fun j v hj => by
            rw [← hst0] at hj
            have := hD _ _ (more_at p hn1 hj)
            rwa [← Nat.add_assoc] at this) hz3 (hS.sub slz_)
          rw [List.length_append] at hc
          exact hc) (by rfl) (h := fun r hr => ?_)
        refine nx (h := ?_)
        refine tk 7 (hy := notB) (h := ?_)
        refine dn (h := ?_)
        refine q_seq (h := ?_)
        refine cd (by exact rfl) (fun h11 => ?_) (fun h11 => ?_)
        · skip
          obtain ⟨rb, ry, rsp⟩ := r
          obtain rfl : rb = false := by simpa using h11
          obtain ⟨hr1, hr2⟩ := hr
          refine sq (h := ?_)
          refine rg (h := ?_)
          refine wy asg ?_
          refine nl (h := ?_)
          refine q_seq (h := ?_)
          refine rtn (h := ?_)
          refine q_blk_ret (h := ?_)
          refine q_then_ret (h := ?_)
          refine q_then_ret (h := ?_)
          refine q_blk_ret (h := ?_)
          refine q_then_ret (h := ?_)
          refine q_retM0 (hR := ?_)
          exact fun w hS => ⟨⟨false, ry, .int .i64 n :: rsp⟩, ⟨by simp only [List.length_cons]; exact congrArg (· + 1) hr1, hr2⟩, rfl, by
            have e : l.map vI ++ .int .i64 n :: rsp = (l ++ [n]).map vI ++ rsp := by rw [List.map_append, List.append_assoc]; rfl
            rw [e]; exact hS⟩
        · skip
          obtain ⟨rb, ry, rsp⟩ := r
          obtain rfl : rb = true := by simpa using h11
          obtain ⟨hr1, hr2⟩ := hr
          have hnxt : k0 + cntVD p f l byes (z.i + 1) = k0 + cntVD p f l byes z.i + (moreV p (rkV p) f (l ++ [n]) (leftB byes n)).length := by rw [hcs, hst0]; omega
          refine skp (h := ?_)
          refine q_blk_norm (h := ?_)
          refine q_seq (h := ?_)
          refine rg (h := ?_)
          refine wy addI ?_
          refine wy mv ?_
          refine nl (h := ?_)
          first
            | (refine rn (x := z) ⟨z.i + 1, z.y, z.sp⟩ ⟨by dsimp only; omega, hz2, by dsimp only; rw [hcs, hst0]; exact hz3⟩ (by dsimp only; omega) sbz_ (by dsimp only; rw [hcs, hst0]; exact SubL.refl _))
            | (refine rn (x := z) ⟨z.i + 1, ry, .int .i64 n :: rsp⟩ ⟨by dsimp only; omega, by simp only [List.length_cons]; exact congrArg (· + 1) hr1, by dsimp only; rw [hnxt]; exact hr2⟩ (by dsimp only; omega) sbz_ (by
                dsimp only
                rw [hnxt]
                have e : l.map vI ++ .int .i64 n :: rsp = (l ++ [n]).map vI ++ rsp := by rw [List.map_append, List.append_assoc]; rfl
                rw [e]
                exact SubL.refl _))
    · skip
      have hkn : z.i = (rkV p).length := by simp only [decide_eq_false_iff_not] at h1; omega
      have hfin : k0 + cntVD p f l byes z.i = k0 + (moreV p (rkV p) (f + 1) l byes).length := by rw [hkn]; unfold cntVD; rw [List.take_length]; rfl
      refine et (h := ?_)
      refine q_then_exit (h := ?_)
      refine q_then_exit (h := ?_)
      refine q_blk_hit (h := ?_)
      refine q_seq (h := ?_)
      refine sq (h := ?_)
      refine rg (h := ?_)
      refine wy asg ?_
      refine nl (h := ?_)
      refine q_seq (h := ?_)
      refine rtn (h := ?_)
      refine q_retM0 (hR := ?_)
      exact fun w hS => ⟨⟨true, z.y, z.sp⟩, ⟨hz2, by rw [← hfin]; exact hz3⟩, rfl, by rw [← hfin]; exact hS⟩
end
end Go.Proofs.YtmlhnajgiopfgaaGreat

namespace Go.Proofs.YtmlhnajgiopfgaaGreat
open Go Go.RowKit

theorem more_all {Y : Type} (p : Pl) (a : PA) (hq : p.Ok) (hpn : p.ps.length ≤ 9223372036854775807) (hln : p.lots.length ≤ 9223372036854775807) (hpc : p.ps.length ≤ a.pc) (D : List (List Int)) (ψ : Nat → Y → Prop) (J : Nat → Y → List Ent) (ψx : Y → Prop) (Jx : Y → List Ent) (w0 : World) (lb g bp by_ br bm : Nat) (rA : Option Addr) (rc : Nat)
    (hround : Rounds p D ψ J ψx Jx (itL p a bp br rA rc) w0 lb) : ∀ f, MoreOk p D ψ J ψx Jx (itL p a bp br rA rc) w0 lb g bp by_ br bm f
  | 0 => more_zero p a hq D ψ J ψx Jx w0 lb g bp by_ br bm rA rc hround
  | f + 1 => more_succ p a hq hpn hln hpc D ψ J ψx Jx w0 lb g bp by_ br bm rA rc f (more_all p a hq hpn hln hpc D ψ J ψx Jx w0 lb g bp by_ br bm rA rc hround f)
theorem flatten_ones (v : Value) : ∀ n : Nat, (List.replicate n [v]).flatten.length = n
  | 0 => rfl
  | n + 1 => by rw [List.replicate_succ, List.flatten_cons, List.length_append, flatten_ones v n]; simp; omega
set_option maxHeartbeats 1000000 in
theorem It_draws (p : Pl) (a : PA) (hq : p.Ok) (hpn : p.ps.length ≤ 9223372036854775807) (hln : p.lots.length ≤ 9223372036854775807) (hpc : p.ps.length ≤ a.pc) (bp br : Nat) (rA : Option Addr) (rc : Nat) :
    It2 Tryz.prog 93 (fun y => [] ++ [y] ++ [.pointer (some ⟨bp, 0, none⟩), .pointer (some ⟨br, 0, none⟩)]) (itL p a bp br rA rc) (drawsV p).length (fun _ (_ : Option Addr × Nat) => True) (fun _ x => [.slice x.1 p.size.toNat x.2]) (fun k x => [.own x.1 x.2 3 1 p.size.toNat (enI ((drawsV p).getD k []))]) := by
  refine ⟨fun {Y} ψ J ψx Jx w0 w lb y0 h0 hst hround => ?_⟩
  have hz := hq.z
  have hqn := hq.n
  have hS : p.size = (p.size.toNat : Int) := by omega
  refine enM (vs := [.func (.yield lb) #[] #[], .pointer (some ⟨bp, 0, none⟩), .pointer (some ⟨br, 0, none⟩)]) Tryz.func93 Tryz.ntmps93 hst (h := ?_)
  refine sq (h := ?_)
  refine rg (h := ?_)
  refine bx (h := fun b0 => ?_)
  refine nl (h := ?_)
  refine q_seq (h := ?_)
  refine sq (h := ?_)
  refine rg (h := ?_)
  refine al (h := fun b1 => ?_)
  refine nl (h := ?_)
  refine q_seq (h := ?_)
  refine sq (h := ?_)
  refine rg (h := ?_)
  refine wy mkf ?_
  first | refine st (h := ?_) | refine stE (h := ?_)
  refine nl (h := ?_)
  refine q_seq (h := ?_)
  refine rgD (by kernel_rfl) [(1000000, .blk b1 120 [.func (.func 94) #[] #[.pointer (some ⟨bp, 0, none⟩), .pointer (some ⟨b0, 0, none⟩), .pointer (some ⟨br, 0, none⟩), .pointer (some ⟨b1, 0, none⟩)]]), (1000000, .blk bp 62 (p.cells a))] (by repeat (first | exact HS.nil | (apply HS.keep; (repeat (first | exact At.here | apply At.there))) | (apply HS.ro; (repeat (first | exact Rds.ro | exact Rds.own | apply Rds.there))))) (h := ?_)
  refine tk 0 (hy := (by first | exact ld | exact ldE)) (h := ?_)
  refine tk 1 (hy := (by first | exact fa | exact faE)) (h := ?_)
  refine tk 2 (hy := (by first | exact ld | exact ldE)) (h := ?_)
  refine tk 4 (hy := (by first | exact fa | exact faE)) (h := ?_)
  refine tk 5 (hy := (by first | exact ld | exact ldE)) (h := ?_)
  refine tk 6 (hy := (by first | exact fa | exact faE)) (h := ?_)
  refine tk 7 (hy := (by first | exact ld | exact ldE)) (h := ?_)
  refine tk 8 (hy := lenS) (h := ?_)
  refine tk 9 (hy := subI) (h := ?_)
  refine one 3 (h := ?_)
  refine mkc p.size.toNat (hy := by show some (Value.int .i64 p.size) = some (Value.int .i64 ((p.size.toNat : Nat) : Int)); rw [← hS]) (h := fun g => ?_)
  refine nx (h := ?_)
  refine one 10 (h := ?_)
  refine clX (f := 94) inferInstance (fi := []) (cap := [.pointer (some ⟨bp, 0, none⟩), .pointer (some ⟨b0, 0, none⟩), .pointer (some ⟨br, 0, none⟩), .pointer (some ⟨b1, 0, none⟩)]) (by exact rfl) (by repeat (first | exact Evs.nil | (apply Evs.cons; exact rfl))) (fun w hS2 => more_all p a hq hpn hln hpc (drawsV p) ψ J ψx Jx w0 lb g bp b0 br b1 rA rc (fun R k x y w hk hφ hy hs => hround R k x y w hk hφ hy hs) p.size.toNat [] (p.size - p.ps.length) (List.replicate p.size.toNat [.int .i64 0]).flatten 0 y0 w (by simp; omega) (flatten_ones _ _) (by omega) (fun x hx => by cases hx) (fun j v hj => by rw [Nat.zero_add]; exact hj) h0 (hS2.sub slz_)) (by rfl) (h := fun r hr => ?_)
  refine nx (h := ?_)
  refine dn (h := ?_)
  refine q_endM0 (hR := ?_)
  obtain ⟨rb, ry, rsp⟩ := r
  obtain ⟨hr1, hr2⟩ := hr
  cases rb
  · exact fun w hS => ⟨_, rfl, .inr ⟨ry, hr2, hS.sub (by dsimp only [cond_false]; repeat (first | exact SubL.refl _ | apply SubL.skip))⟩⟩
  · rw [Nat.zero_add] at hr2
    exact fun w hS => ⟨_, rfl, .inl ⟨ry, hr2, by
      simp only [Nat.zero_add] at hS
      exact hS.sub (by dsimp only [cond_true]; repeat (first | exact SubL.refl _ | apply SubL.skip))⟩⟩
structure DrX where
  (bp br : Nat) (rA : Option Addr) (rc : Nat)
set_option maxHeartbeats 1000000 in
theorem C_draws (p : Pl) (a : PA) (hq : p.Ok) (w : World) (h : PRd w p a) : CR Tryz.prog 71 [p.val a] w (fun _ : DrX => True) (fun x => .func (.func 93) #[] #[.pointer (some ⟨x.bp, 0, none⟩), .pointer (some ⟨x.br, 0, none⟩)]) (fun x => [.blk x.bp 62 (p.cells a), .blk x.br 22 [.slice x.rA (p.ps.length + 1) x.rc], .own x.rA x.rc 3 1 (p.ps.length + 1) (enI (rkV p))]) := by
  obtain ⟨hp, hl, hpn, hln, hpc⟩ := h
  have hz := hq.z
  have hqn := hq.n
  refine ⟨en Tryz.func71 Tryz.ntmps71 (((St.init w).share (e := .ro a.pA 3 p.ps.length (encPs p.ps)) hp rfl rfl rfl).share (e := .ro a.lA 1 p.lots.length (enI p.lots)) hl rfl rfl rfl) (h := fun F => ?_)⟩
  refine sq (h := ?_)
  refine rg (h := ?_)
  refine bxA (h := fun b0 => ?_)
  refine wy asg ?_
  refine nl (h := ?_)
  refine q_seq (h := ?_)
  refine sq (h := ?_)
  refine rg (h := ?_)
  refine al (h := fun b1 => ?_)
  refine nl (h := ?_)
  refine q_seq (h := ?_)
  refine sq (h := ?_)
  refine sq (h := ?_)
  refine WC.nilOwn 3 1 (h := ?_)
  refine rg (h := ?_)
  refine wy (by first | exact fa | exact faE) ?_
  refine wy (by first | exact ld | exact ldE) ?_
  refine wy lenS ?_
  refine wy mv ?_
  refine nl (h := ?_)
  refine q_seq (h := ?_)
  refine bk (h := ?_)
  refine lp (X := ShZ) (I := fun z => z.k ≤ p.ps.length) (le := fun z => [(1, .pointer (some ⟨b0, 0, none⟩)), (3, .pointer (some ⟨b1, 0, none⟩)), (7, .int .i64 p.ps.length), (8, .int .i64 z.k)]) (Le := fun z => .blk b1 22 [.slice z.A z.k z.c] :: .own z.A z.c 3 1 z.k (enI (idxs z.k)) :: plL p a b0) (μ := fun z => p.ps.length - z.k) ⟨0, none, 0⟩ (Nat.zero_le _) sbz_ slz_ (fun z hz => ?_)
  refine sq (h := ?_)
  refine rg (h := ?_)
  refine wy lss ?_
  refine nl (h := ?_)
  refine q_seq (h := ?_)
  refine sq (h := ?_)
  refine cd (by exact rfl) (fun h0 => ?_) (fun h0 => ?_)
  · skip
    have hkn : z.k < p.ps.length := by simp only [decide_eq_true_eq] at h0; omega
    have hst : enI (idxs (z.k + 1)) = enI (idxs z.k) ++ [[.int .i64 (z.k : Int)]] := by rw [idxs_succ, enI_app]
    refine skp (h := ?_)
    refine q_seq (h := ?_)
    refine sq (h := ?_)
    refine bk (h := ?_)
    refine sq (h := ?_)
    refine rg (h := ?_)
    refine wy mv ?_
    refine wy asg ?_
    refine nl (h := ?_)
    refine q_seq (h := ?_)
    refine rg (h := ?_)
    refine wy (by first | exact ld | exact ldE) ?_
    refine wy mv ?_
    refine bs (h := fun b2 => ?_)
    first | refine ap (h := fun A1 c1 => ?_) | refine ap0 (h := fun A1 c1 => ?_)
    first | refine st (h := ?_) | refine stE (h := ?_)
    refine nl (h := ?_)
    refine q_blk_norm (h := ?_)
    refine q_seq (h := ?_)
    refine rg (h := ?_)
    refine wy addI ?_
    refine wy mv ?_
    refine nl (h := ?_)
    refine rn (x := z) ⟨z.k + 1, _, _⟩ (by dsimp only; omega) (by dsimp only; omega) sbz_ (by dsimp only; rw [hst]; repeat (first | exact SubL.nil | (apply SubL.cons; (repeat (first | exact At.here | apply At.there))) | exact SubL.refl _ | apply SubL.skip))
  · skip
    have hkn : z.k = p.ps.length := by simp only [decide_eq_false_iff_not] at h0; omega
    rw [hkn]
    refine et (h := ?_)
    refine q_then_exit (h := ?_)
    refine q_then_exit (h := ?_)
    refine q_blk_hit (h := ?_)
    refine q_seq (h := ?_)
    refine sq (h := ?_)
    refine rg (h := ?_)
    refine wy (by first | exact ld | exact ldE) ?_
    refine wy mkf ?_
    refine clT (hc := T_SortFunc p a b0 hq (idxs p.ps.length) z.A p.ps.length z.c (idxs_len _) (by omega) (fun x hx => idxs_mem.1 hx)) (hs := (by repeat (first | exact Spl.nil | (apply Spl.cons; (repeat (first | exact At.here | apply At.there)))))) (h := fun _ _ => ?_)
    refine nl (h := ?_)
    refine q_seq (h := ?_)
    refine sq (h := ?_)
    refine rg (h := ?_)
    refine bs (h := fun b3 => ?_)
    refine wy (by first | exact ld | exact ldE) ?_
    first | refine ap (h := fun A2 c2 => ?_) | refine ap0 (h := fun A2 c2 => ?_)
    first | refine st (h := ?_) | refine stE (h := ?_)
    refine nl (h := ?_)
    refine q_seq (h := ?_)
    refine sq (h := ?_)
    refine rg (h := ?_)
    refine wy mkf ?_
    refine wy asg ?_
    refine nl (h := ?_)
    refine q_seq (h := ?_)
    refine rtn (h := ?_)
    refine q_ret (hR := ?_)
    have e1 : (1 : Nat) + p.ps.length = p.ps.length + 1 := by omega
    have e2 : [[Value.int .i64 (-1)]] ++ enI (sortV (ltP p) (idxs p.ps.length)) = enI (rkV p) := rfl
    exact fun w hS => ⟨⟨_, _, _, _⟩, trivial, rfl, by
      rw [e1, e2] at hS
      exact hS.sub slz_⟩
end Go.Proofs.YtmlhnajgiopfgaaGreat

namespace Go.Proofs.YtmlhnajgiopfgaaGreat
open Go Go.RowKit

theorem flatMap_len {α : Type} (xs : List α) (G : α → List (List Int)) (B : Nat) (h : ∀ x ∈ xs, (G x).length ≤ B) : (xs.flatMap G).length ≤ xs.length * B := by
  induction xs with
  | nil => simp
  | cons x xs ih =>
    rw [List.flatMap_cons, List.length_append, List.length_cons, Nat.succ_mul]
    have := h x (by simp)
    have := ih fun y hy => h y (List.mem_cons_of_mem _ hy)
    omega
theorem more_len (p : Pl) : ∀ (f : Nat) (l : List Int) (byes : Int), (moreV p (rkV p) f l byes).length ≤ (rkV p).length ^ f
  | 0, _, _ => by simp [moreV]
  | f + 1, l, byes => by
    rw [moreV, Nat.pow_succ, Nat.mul_comm]
    refine flatMap_len _ _ _ fun n _ => ?_
    cases skipV p l byes n
    · exact more_len p f _ _
    · simp
theorem draws_len {p : Pl} (hq : p.Ok) : (drawsV p).length ≤ 43046721 := by
  have h := more_len p p.size.toNat [] (byesV p)
  have hz := hq.z
  have hn := hq.n
  rw [rk_len] at h
  refine Nat.le_trans h (Nat.le_trans (Nat.pow_le_pow_left (show p.ps.length + 1 ≤ 9 by omega) _) (Nat.le_trans (Nat.pow_le_pow_right (by omega) (show p.size.toNat ≤ 8 by omega)) ?_))
  decide
theorem more_mem {p : Pl} : ∀ (f : Nat) (l : List Int) (byes : Int), (∀ x ∈ l, InP p x) → ∀ v ∈ moreV p (rkV p) f l byes, v.length = l.length + f ∧ ∀ x ∈ v, InP p x
  | 0, l, _, hl, v, hv => by
    rw [moreV, List.mem_singleton] at hv
    subst hv; exact ⟨rfl, hl⟩
  | f + 1, l, byes, hl, v, hv => by
    rw [moreV, List.mem_flatMap] at hv
    obtain ⟨n, hn, hv⟩ := hv
    cases hs : skipV p l byes n
    · rw [hs] at hv
      have := more_mem f (l ++ [n]) (leftB byes n) (fun x hx => by
        rcases List.mem_append.1 hx with hx | hx
        · exact hl x hx
        · simp only [List.mem_singleton] at hx; subst hx; exact rk_mem.1 hn) v hv
      rw [List.length_append] at this
      exact ⟨by have := this.1; simp at this; omega, this.2⟩
    · rw [hs] at hv; cases hv
theorem draws_mem {p : Pl} (hq : p.Ok) {v : List Int} (hv : v ∈ drawsV p) : v.length = p.size.toNat ∧ ∀ x ∈ v, InP p x := by
  have := more_mem p.size.toNat [] (byesV p) (fun x hx => by cases hx) v hv
  simpa using this
def cntN (p : Pl) : Int := bif pOk p then (drawsV p).length else 0
set_option maxHeartbeats 1000000 in
theorem C_dr_Count (p : Pl) (a : PA) (hz0 : -9223372036854775808 ≤ p.size ∧ p.size ≤ 9223372036854775807) (w : World) (h : PRd w p a) : C0 Tryz.prog 41 [p.val a] w (.tuple #[.int .i64 (cntN p), .int .i64 (chkP p)]) := by
  obtain ⟨hp, hl, hpn, hln, hpc⟩ := h
  refine ⟨enM Tryz.func41 Tryz.ntmps41 (((St.init w).share (e := .ro a.pA 3 p.ps.length (encPs p.ps)) hp rfl rfl rfl).share (e := .ro a.lA 1 p.lots.length (enI p.lots)) hl rfl rfl rfl) (h := ?_)⟩
  refine sq (h := ?_)
  refine rg (h := ?_)
  refine bxA (h := fun b0 => ?_)
  refine wy asg ?_
  refine wy asg ?_
  refine nl (h := ?_)
  refine q_seq (h := ?_)
  refine sq (h := ?_)
  refine sq (h := ?_)
  refine rg (h := ?_)
  refine wy (by first | exact ldA | exact ldEA) ?_
  refine cl0 (hc := fun w hS => C_dr_Check p a hz0 w ⟨hS.get, hS.get, hpn, hln, hpc⟩) (h := ?_)
  refine wy asg ?_
  refine nl (h := ?_)
  refine q_seq (h := ?_)
  refine sq (h := ?_)
  refine rg (h := ?_)
  refine wy mv ?_
  refine wy neq ?_
  refine nl (h := ?_)
  refine q_seq (h := ?_)
  refine cd (by exact rfl) (fun h0 => ?_) (fun h0 => ?_)
  · skip
    have hb := chkP_no h0
    have hE : cntN p = 0 := by rw [cntN, hb]; rfl
    refine sq (h := ?_)
    refine rg (h := ?_)
    refine wy mv ?_
    refine wy asg ?_
    refine wy asg ?_
    refine nl (h := ?_)
    refine q_seq (h := ?_)
    refine rtn (h := ?_)
    refine q_then_ret (h := ?_)
    refine q_retM0 (hR := ?_)
    rw [hE]
    exact fun w hS => ⟨rfl, hS.sub slz_⟩
  · skip
    obtain ⟨hq, hb⟩ := chkP_ok h0
    have hE : cntN p = (drawsV p).length := by rw [cntN, hb]; rfl
    have hE2 : chkP p = 0 := by rw [chkP, hb]; rfl
    have hN := draws_len hq
    refine skp (h := ?_)
    refine q_seq (h := ?_)
    refine sq (h := ?_)
    refine rg (h := ?_)
    refine al (h := fun b1 => ?_)
    first | refine st (h := ?_) | refine stE (h := ?_)
    refine nl (h := ?_)
    refine q_seq (h := ?_)
    refine sq (h := ?_)
    refine sq (h := ?_)
    refine rg (h := ?_)
    refine wy (by first | exact ldA | exact ldEA) ?_
    refine cl (hc := fun w hS => C_draws p a hq w ⟨hS.get, hS.get, hpn, hln, hpc⟩) (h := fun x0 _ => ?_)
    refine nl (h := ?_)
    refine q_seq (h := ?_)
    refine bk (h := ?_)
    refine rf2 (f := 93) inferInstance (fun k (_ : Unit) => True) (fun k _ => [.blk b1 3 [.int .i64 k], .blk b0 62 (p.cells a)]) (fun _ => False) (fun _ => .skip) (fun _ => []) () (It_draws p a hq hpn hln hpc x0.bp x0.br x0.rA x0.rc) (by exact rfl) (fun _ _ => rfl) (by rfl) trivial slz_ (fun R fn tmps lb rb k x y hk hφ hy => ?_) (fun rb y hy => ?_) (fun _ _ h => h.elim)
    · skip
      refine skp (h := ?_)
      refine bgn (h := ?_)
      refine bk (h := ?_)
      refine rg (h := ?_)
      refine wy (by first | exact ld | exact ldE) ?_
      refine wy addI ?_
      first | refine st (h := ?_) | refine stE (h := ?_)
      refine nl (h := ?_)
      refine q_blk_norm (h := ?_)
      refine rdN (y := ()) trivial (hs := slz_)
    refine q_blk_norm (h := ?_)
    refine q_seq (h := ?_)
    refine sq (h := ?_)
    refine rg (h := ?_)
    refine wy (by first | exact ld | exact ldE) ?_
    refine wy asg ?_
    refine wy asg ?_
    refine nl (h := ?_)
    refine q_seq (h := ?_)
    refine rtn (h := ?_)
    refine q_retM (hR := ?_)
    rw [hE, hE2]
    exact fun w hS => ⟨rfl, hS.sub slz_⟩
def pickL (p : Pl) (n : Int) : List Int × Bool := match (drawsV p)[n.toNat]? with
  | some l => (l.map (plyV p), true)
  | none => ([], false)
set_option maxHeartbeats 2000000 in
theorem C_pick (p : Pl) (a : PA) (n : Int) (hq : p.Ok) (hn : 0 ≤ n ∧ n ≤ 9223372036854775807) (w : World) (h : PRd w p a) : CR Tryz.prog 42 [p.val a, .int .i64 n] w (fun _ : Option Addr × Nat => True) (fun x => .tuple #[.slice x.1 (pickL p n).1.length x.2, .bool (pickL p n).2]) (fun x => [.own x.1 x.2 3 1 (pickL p n).1.length (enI (pickL p n).1)]) := by
  obtain ⟨hp, hl, hpn, hln, hpc⟩ := h
  have hz := hq.z
  have hN := draws_len hq
  refine ⟨enM Tryz.func42 Tryz.ntmps42 (((St.init w).share (e := .ro a.pA 3 p.ps.length (encPs p.ps)) hp rfl rfl rfl).share (e := .ro a.lA 1 p.lots.length (enI p.lots)) hl rfl rfl rfl) (h := ?_)⟩
  refine sq (h := ?_)
  refine rg (h := ?_)
  refine bxA (h := fun b0 => ?_)
  refine bx (h := fun b1 => ?_)
  refine al (h := fun b2 => ?_)
  refine al (h := fun b3 => ?_)
  refine nl (h := ?_)
  refine q_seq (h := ?_)
  refine sq (h := ?_)
  refine sq (h := ?_)
  refine rg (h := ?_)
  refine wy (by first | exact ldA | exact ldEA) ?_
  refine cl (hc := fun w hS => C_draws p a hq w ⟨hS.get, hS.get, hpn, hln, hpc⟩) (h := fun x0 _ => ?_)
  refine nl (h := ?_)
  refine q_seq (h := ?_)
  refine bk (h := ?_)
  refine rf2 (f := 93) inferInstance (fun k (_ : Option Addr × Nat) => (k : Int) ≤ n) (fun k _ => [.blk b1 3 [.int .i64 (n - (k : Int))], .blk b2 22 [.slice none 0 0], .blk b3 4 [.bool false], .blk b0 62 (p.cells a)]) (fun _ => n.toNat < (drawsV p).length) (fun _ => .ret) (fun y => [.blk b2 22 [.slice y.1 p.size.toNat y.2], .blk b3 4 [.bool true], .own y.1 y.2 3 1 p.size.toNat (enI (((drawsV p).getD n.toNat []).map (plyV p)))]) (none, 0) (It_draws p a hq hpn hln hpc x0.bp x0.br x0.rA x0.rc) (by exact rfl) (fun _ _ => rfl) (by rfl) (by omega) (by rw [show n - ((0 : Nat) : Int) = n by omega]; repeat (first | exact SubL.nil | (apply SubL.cons; (repeat (first | exact At.here | apply At.there))) | exact SubL.refl _ | apply SubL.skip)) (fun R fn tmps lb rb k x y hk hφ hy => ?_) (fun rb y hy => ?_) (fun rb y hy => ?_)
  · skip
    obtain ⟨v, hv⟩ : ∃ v, (drawsV p)[k]? = some v := ⟨_, List.getElem?_eq_getElem hk⟩
    have hvm := draws_mem hq (List.mem_of_getElem? hv)
    have hvd : (drawsV p).getD k [] = v := by rw [List.getD_eq_getElem?_getD, hv]; rfl
    rw [hvd]
    refine rg (h := ?_)
    refine wy asg ?_
    refine nl (h := ?_)
    refine bgn (h := ?_)
    refine bk (h := ?_)
    refine sq (h := ?_)
    refine sq (h := ?_)
    refine rg (h := ?_)
    refine wy (by first | exact ld | exact ldE) ?_
    refine wy eql ?_
    refine nl (h := ?_)
    refine q_seq (h := ?_)
    refine cd (by exact rfl) (fun h0 => ?_) (fun h0 => ?_)
    · skip
      have hkn : n.toNat = k := by have := of_decide_eq_true h0; omega
      refine sq (h := ?_)
      refine rg (h := ?_)
      refine wy (by first | exact ldA | exact ldEA) ?_
      refine wy mv ?_
      refine cl (hc := fun w hS => C_sheet p a v x.1 p.size.toNat x.2 hvm.1 (by omega) hvm.2 w ⟨hS.get (by repeat (first | exact Rds.ro | apply Rds.there)), hS.get (by repeat (first | exact Rds.ro | apply Rds.there)), hpn, hln, hpc⟩ (hS.get (by repeat (first | exact Rds.own | apply Rds.there)))) (h := fun x1 _ => ?_)
      first | refine st (h := ?_) | refine stE (h := ?_)
      first | refine st (h := ?_) | refine stE (h := ?_)
      refine nl (h := ?_)
      refine q_seq (h := ?_)
      refine rtn (h := ?_)
      refine q_then_ret (h := ?_)
      refine q_blk_ret (h := ?_)
      refine rdRet (y := x1) (by omega) (hs := by rw [hkn, hvd]; repeat (first | exact SubL.nil | (apply SubL.cons; (repeat (first | exact At.here | apply At.there))) | exact SubL.refl _ | apply SubL.skip))
    · skip
      have hkn : (k : Int) < n := by have := of_decide_eq_false h0; omega
      refine skp (h := ?_)
      refine q_seq (h := ?_)
      refine rg (h := ?_)
      refine wy (by first | exact ld | exact ldE) ?_
      refine wy subI ?_
      first | refine st (h := ?_) | refine stE (h := ?_)
      refine nl (h := ?_)
      refine q_blk_norm (h := ?_)
      refine rdN (y := (none, 0)) (by omega) (hs := by rw [show n - (((k + 1 : Nat)) : Int) = n - (k : Int) - 1 by omega]; repeat (first | exact SubL.nil | (apply SubL.cons; (repeat (first | exact At.here | apply At.there))) | exact SubL.refl _ | apply SubL.skip))
  · skip
    have hE : pickL p n = ([], false) := by rw [pickL, List.getElem?_eq_none (by omega)]
    refine q_blk_norm (h := ?_)
    refine q_seq (h := ?_)
    refine sq (h := ?_)
    refine WC.nilOwn 3 1 (h := ?_)
    refine rg (h := ?_)
    first | refine st (h := ?_) | refine stE (h := ?_)
    first | refine st (h := ?_) | refine stE (h := ?_)
    refine nl (h := ?_)
    refine q_seq (h := ?_)
    refine rtn (h := ?_)
    refine q_retM (hR := ?_)
    rw [hE]
    exact fun w hS => ⟨(none, 0), trivial, rfl, hS.sub slz_⟩
  · skip
    have hE : pickL p n = (((drawsV p).getD n.toNat []).map (plyV p), true) := by rw [pickL, List.getElem?_eq_getElem hy, List.getD_eq_getElem?_getD, List.getElem?_eq_getElem hy]; rfl
    have hlen : (((drawsV p).getD n.toNat []).map (plyV p)).length = p.size.toNat := by
      rw [List.length_map, List.getD_eq_getElem?_getD, List.getElem?_eq_getElem hy]
      exact (draws_mem hq (List.getElem_mem hy)).1
    refine rtn (h := ?_)
    refine q_blk_ret (h := ?_)
    refine q_then_ret (h := ?_)
    refine q_retM (hR := ?_)
    rw [hE]
    dsimp only
    rw [hlen]
    exact fun w hS => ⟨y, trivial, rfl, hS.sub slz_⟩
def sumID : List Int → Int
  | [] => 0
  | x :: xs => x + sumID xs
theorem sumI_take {xs : List Int} : ∀ {k : Nat} {x : Int}, xs[k]? = some x → sumID (xs.take (k + 1)) = sumID (xs.take k) + x := by
  induction xs with
  | nil => intro k x h; simp at h
  | cons y ys ih =>
    intro k x h
    cases k with
    | zero => simp at h; subst h; simp [sumID]
    | succ k =>
      simp only [List.take_succ_cons, sumID]
      rw [ih (by simpa using h)]; omega
theorem sumI_rng {xs : List Int} (h : ∀ n ∈ xs, 0 ≤ n ∧ n ≤ 999999) : 0 ≤ sumID xs ∧ sumID xs ≤ 999999 * xs.length := by
  induction xs with
  | nil => simp [sumID]
  | cons y ys ih =>
    have h1 := h y (by simp)
    have h2 := ih fun n hn => h n (List.mem_cons_of_mem _ hn)
    simp only [sumID, List.length_cons]
    omega
def drwP (p : Pl) : List Int × Int := bif !pOk p then ([], 60) else bif decide (((drawsV p).length : Int) = 0) then ([], 3) else ((pickL p (sumID p.lots % (drawsV p).length)).1, 0)
structure IZA where
  (k : Nat)
set_option maxHeartbeats 1000000 in
theorem C_dr_Draw (p : Pl) (a : PA) (hz0 : -9223372036854775808 ≤ p.size ∧ p.size ≤ 9223372036854775807) (w : World) (h : PRd w p a) : CR Tryz.prog 16 [p.val a] w (fun _ : Option Addr × Nat => True) (fun x => .tuple #[.slice x.1 (drwP p).1.length x.2, .int .i64 (drwP p).2]) (fun x => [.own x.1 x.2 3 1 (drwP p).1.length (enI (drwP p).1)]) := by
  obtain ⟨hp, hl, hpn, hln, hpc⟩ := h
  refine ⟨en Tryz.func16 Tryz.ntmps16 (((St.init w).share (e := .ro a.pA 3 p.ps.length (encPs p.ps)) hp rfl rfl rfl).share (e := .ro a.lA 1 p.lots.length (enI p.lots)) hl rfl rfl rfl) (h := fun F => ?_)⟩
  refine sq (h := ?_)
  refine rg (h := ?_)
  refine bxA (h := fun b0 => ?_)
  refine wy asg ?_
  refine wy asg ?_
  refine nl (h := ?_)
  refine q_seq (h := ?_)
  refine sq (h := ?_)
  refine rg (h := ?_)
  refine wy (by first | exact ldA | exact ldEA) ?_
  refine cl0 (hc := fun w hS => C_dr_Count p a hz0 w ⟨hS.get, hS.get, hpn, hln, hpc⟩) (h := ?_)
  refine wy mv ?_
  refine wy ex ?_
  refine wy ex ?_
  refine wy asg ?_
  refine wy asg ?_
  refine nl (h := ?_)
  refine q_seq (h := ?_)
  refine sq (h := ?_)
  refine sq (h := ?_)
  refine rg (h := ?_)
  refine wy mv ?_
  refine wy neq ?_
  refine nl (h := ?_)
  refine q_seq (h := ?_)
  refine cd (by exact rfl) (fun h0 => ?_) (fun h0 => ?_)
  · skip
    have hb := chkP_no h0
    have hE : drwP p = ([], chkP p) := by rw [drwP, chkP, hb]; rfl
    refine WC.nilOwn 3 1 (h := ?_)
    refine sq (h := ?_)
    refine rg (h := ?_)
    refine wy mv ?_
    refine wy asg ?_
    refine wy asg ?_
    refine nl (h := ?_)
    refine q_seq (h := ?_)
    refine rtn (h := ?_)
    refine q_then_ret (h := ?_)
    refine q_ret (hR := ?_)
    rw [hE]
    exact fun w hS => ⟨(none, 0), trivial, rfl, hS.sub slz_⟩
  · skip
    obtain ⟨hq, hb⟩ := chkP_ok h0
    have hcn : cntN p = (drawsV p).length := by rw [cntN, hb]; rfl
    rw [hcn]
    have hN := draws_len hq
    have hll := hq.l
    have hlt := hq.lt
    have hsr := sumI_rng hlt
    refine skp (h := ?_)
    refine q_seq (h := ?_)
    refine sq (h := ?_)
    refine sq (h := ?_)
    refine rg (h := ?_)
    refine wy mv ?_
    refine wy eql ?_
    refine nl (h := ?_)
    refine q_seq (h := ?_)
    refine cd (by exact rfl) (fun h1 => ?_) (fun h1 => ?_)
    · skip
      have hE : drwP p = ([], 3) := by rw [drwP, hb, h1]; rfl
      refine WC.nilOwn 3 1 (h := ?_)
      refine sq (h := ?_)
      refine rg (h := ?_)
      refine wy asg ?_
      refine wy asg ?_
      refine nl (h := ?_)
      refine q_seq (h := ?_)
      refine rtn (h := ?_)
      refine q_then_ret (h := ?_)
      refine q_ret (hR := ?_)
      rw [hE]
      exact fun w hS => ⟨(none, 0), trivial, rfl, hS.sub slz_⟩
    · skip
      have hE : drwP p = ((pickL p (sumID p.lots % (drawsV p).length)).1, 0) := by rw [drwP, hb, h1]; rfl
      have hN0 : 0 < (drawsV p).length := by have := of_decide_eq_false h1; omega
      have hmd : 0 ≤ sumID p.lots % ((drawsV p).length : Int) ∧ sumID p.lots % ((drawsV p).length : Int) < (drawsV p).length := ⟨Int.emod_nonneg _ (by omega), Int.emod_lt_of_pos _ (by omega)⟩
      refine skp (h := ?_)
      refine q_seq (h := ?_)
      refine sq (h := ?_)
      refine rg (h := ?_)
      refine wy asg ?_
      refine nl (h := ?_)
      refine q_seq (h := ?_)
      refine sq (h := ?_)
      refine sq (h := ?_)
      refine rg (h := ?_)
      refine wy (by first | exact fa | exact faE) ?_
      refine wy (by first | exact ld | exact ldE) ?_
      refine wy lenS ?_
      refine wy mv ?_
      refine nl (h := ?_)
      refine q_seq (h := ?_)
      refine bk (h := ?_)
      refine lp (X := IZA) (I := fun z => z.k ≤ p.lots.length) (le := fun z => [(1, .pointer (some ⟨b0, 0, none⟩)), (4, .int .i64 (drawsV p).length), (6, .int .i64 (sumID (p.lots.take z.k))), (22, .slice a.lA p.lots.length a.lc), (23, .int .i64 p.lots.length), (24, .int .i64 z.k)]) (Le := fun _ => plL p a b0) (μ := fun z => p.lots.length - z.k) ⟨0⟩ (Nat.zero_le _) sbz_ slz_ (fun z hz => ?_)
      refine sq (h := ?_)
      refine rg (h := ?_)
      refine wy lss ?_
      refine nl (h := ?_)
      refine q_seq (h := ?_)
      refine sq (h := ?_)
      refine cd (by exact rfl) (fun h2 => ?_) (fun h2 => ?_)
      · skip
        have hkn : z.k < p.lots.length := by simp only [decide_eq_true_eq] at h2; omega
        obtain ⟨v, hv⟩ : ∃ v, p.lots[z.k]? = some v := ⟨_, List.getElem?_eq_getElem hkn⟩
        have hve := enI_at hv
        have hst := sumI_take hv
        have hvr := hlt v (List.mem_of_getElem? hv)
        have hsk := sumI_rng (xs := p.lots.take z.k) (fun n hn => hlt n (List.mem_of_mem_take hn))
        rw [List.length_take] at hsk
        refine skp (h := ?_)
        refine q_seq (h := ?_)
        refine sq (h := ?_)
        refine bk (h := ?_)
        refine sq (h := ?_)
        refine rg (h := ?_)
        refine wy (ix (A := a.lA) (m := p.lots.length)) ?_
        refine wy (ldE (A := a.lA) (hk := hve)) ?_
        refine wy asg ?_
        refine nl (h := ?_)
        refine q_seq (h := ?_)
        refine rg (h := ?_)
        refine wy mv ?_
        refine wy mv ?_
        refine wy addI ?_
        refine wy asg ?_
        refine nl (h := ?_)
        refine q_blk_norm (h := ?_)
        refine q_seq (h := ?_)
        refine rg (h := ?_)
        refine wy addI ?_
        refine wy mv ?_
        refine nl (h := ?_)
        refine rn (x := z) ⟨z.k + 1⟩ (by dsimp only; omega) (by dsimp only; omega) (by dsimp only; rw [hst]; repeat (first | exact trivial | refine ⟨rfl, ?_⟩)) slz_
      · skip
        have hkn : z.k = p.lots.length := by simp only [decide_eq_false_iff_not] at h2; omega
        rw [hkn, List.take_length]
        refine et (h := ?_)
        refine q_then_exit (h := ?_)
        refine q_then_exit (h := ?_)
        refine q_blk_hit (h := ?_)
        refine q_seq (h := ?_)
        refine sq (h := ?_)
        refine rgD0 (by kernel_rfl) (h := ?_)
        refine tk 0 (hy := (by first | exact ldA | exact ldEA)) (h := ?_)
        refine tk 1 (hy := mv) (h := ?_)
        refine tk 2 (hy := mv) (h := ?_)
        refine tk 3 (hy := remI) (h := ?_)
        refine one 4 (h := ?_)
        refine cl (hc := fun w hS => C_pick p a (sumID p.lots % (drawsV p).length) hq (by omega) w ⟨hS.get (by repeat (first | exact Rds.ro | apply Rds.there)), hS.get (by repeat (first | exact Rds.ro | apply Rds.there)), hpn, hln, hpc⟩) (h := fun x0 _ => ?_)
        refine nx (h := ?_)
        refine tk 5 (hy := mv) (h := ?_)
        refine tk 6 (hy := ex) (h := ?_)
        refine tk 7 (hy := ex) (h := ?_)
        refine tk 8 (hy := asg) (h := ?_)
        refine tk 9 (hy := asg) (h := ?_)
        refine dn (h := ?_)
        refine q_seq (h := ?_)
        refine sq (h := ?_)
        refine rg (h := ?_)
        refine wy mv ?_
        refine wy asg ?_
        refine wy asg ?_
        refine nl (h := ?_)
        refine q_seq (h := ?_)
        refine rtn (h := ?_)
        refine q_ret (hR := ?_)
        rw [hE]
        exact fun w hS => ⟨x0, trivial, rfl, hS.sub slz_⟩
end Go.Proofs.YtmlhnajgiopfgaaGreat

namespace Go.Proofs.YtmlhnajgiopfgaaGreat
open Go Go.RowKit

def exPD : Pl := ⟨4, 1, [⟨10, 1, false⟩, ⟨20, 2, false⟩, ⟨30, 1, false⟩], [5, 4]⟩
def exR : Pl := ⟨4, 0, [⟨1, 1, false⟩, ⟨2, 1, false⟩, ⟨3, 2, false⟩, ⟨4, 0, false⟩], []⟩
theorem ex_draw : drwP exPD = ([10, -1, 30, 20], 0) := by kernel_rfl
structure ExA where
  (A1 A2 A3 : Option Addr)
set_option maxHeartbeats 1000000 in
theorem C_law06_Example (w : World) : CR Tryz.prog 15 [] w (fun _ : ExA => True) (fun x => .tuple #[exPD.val ⟨x.A1, x.A2, 3, 2⟩, exR.val ⟨x.A3, none, 4, 0⟩]) (fun x => [.own x.A1 3 109 3 3 (encPs exPD.ps), .own x.A2 2 3 1 2 (enI exPD.lots), .own x.A3 4 109 3 4 (encPs exR.ps)]) := by
  refine ⟨en Tryz.func15 Tryz.ntmps15 (St.init w) (h := fun F => ?_)⟩
  refine sq (h := ?_)
  refine rg (h := ?_)
  refine al (h := fun b0 => ?_)
  refine al (h := fun b1 => ?_)
  refine nl (h := ?_)
  refine q_seq (h := ?_)
  refine sq (h := ?_)
  refine rg (h := ?_)
  refine wy bd ?_
  refine wy bd ?_
  refine wy bd ?_
  refine bs (h := fun b2 => ?_)
  refine bs (h := fun b3 => ?_)
  refine wy bd ?_
  first | refine stA (h := ?_) | refine stEA (h := ?_)
  refine nl (h := ?_)
  refine q_seq (h := ?_)
  refine sq (h := ?_)
  refine rg (h := ?_)
  refine wy bd ?_
  refine wy bd ?_
  refine wy bd ?_
  refine wy bd ?_
  refine bs (h := fun b4 => ?_)
  refine wy bd ?_
  first | refine stA (h := ?_) | refine stEA (h := ?_)
  refine nl (h := ?_)
  refine q_seq (h := ?_)
  refine sq (h := ?_)
  refine rgD0 (by kernel_rfl) (h := ?_)
  refine tk 0 (hy := (by first | exact ldA | exact ldEA)) (h := ?_)
  refine tk 1 (hy := (by first | exact ldA | exact ldEA)) (h := ?_)
  refine one 2 (h := ?_)
  first | refine stA (h := ?_) | refine stEA (h := ?_)
  refine nx (h := ?_)
  refine one 3 (h := ?_)
  first | refine stA (h := ?_) | refine stEA (h := ?_)
  refine nx (h := ?_)
  refine dn (h := ?_)
  refine q_seq (h := ?_)
  refine rtn (h := ?_)
  refine q_ret (hR := ?_)
  exact fun w hS => ⟨⟨_, _, _⟩, trivial, rfl, hS.sub slz_⟩
end Go.Proofs.YtmlhnajgiopfgaaGreat

namespace Go.Proofs.YtmlhnajgiopfgaaGreat
open Go Go.RowKit

abbrev ex7S : List Int := [1, -1, 2, 3, 4, 5, 6, 7]
abbrev ex7T (A : Option Addr) : Tre := ⟨3, A, 8, ex7S⟩
abbrev ex7L : List Sl := [⟨1, 1, 0, 2, 0⟩, ⟨3, 0, 3, 7, 0⟩, ⟨5, 0, 4, 8, 4⟩]
abbrev ex7P : List Int := [1, -1, 2, 3, 8, 5, 6, 7]
def ex7M : MM := upM (upM (upM (mustB ex7P) 0 1 2) 1 0 2) 0 3 7
theorem ex7_pl : playersV (ex7T none) ex7L = some ex7P := by kernel_rfl
theorem ex7_dr : drM (onceL ex7L) ex7P 3 = some ex7M := by kernel_rfl
theorem ex7_up : TUp ex7S 8 := ⟨by decide, by decide, fun i j h1 h2 h3 => (by decide : ∀ j, j < 8 → ∀ i, i < j → ex7S.getD i 0 = ex7S.getD j 0 → ex7S.getD j 0 = -1) j h2 i h1 h3⟩
theorem ex7_tok (A : Option Addr) : TOk (ex7T A) := ex7_up.ok (t := ex7T A) (show (1 : Int) ≤ 3 ∧ (3 : Int) ≤ 5 by decide) rfl
theorem ex7_agr (A : Option Addr) : Agr (ex7T A) ex7L ⟨ex7P, ex7M⟩ := by
  refine ⟨ex7_tok A, by decide, fun x hx => ?_, draw_yes (show playersV (ex7T none) ex7L = some ex7P from ex7_pl) ex7_dr⟩
  rcases List.mem_cons.1 hx with rfl | hx
  · rfl
  rcases List.mem_cons.1 hx with rfl | hx
  · rfl
  rw [List.mem_singleton.1 hx]; rfl
theorem ex7_at (r p : Nat) : ex7M r p ≠ -2 ↔ (r = 0 ∧ p = 3) ∨ (r = 1 ∧ p = 0) ∨ (r = 0 ∧ p = 1) ∨ (r = 0 ∧ p = 0) := by
  unfold ex7M upM mustB
  by_cases h1 : r = 0 ∧ p = 3
  · rw [if_pos h1]; exact ⟨fun _ => .inl h1, fun _ => by decide⟩
  rw [if_neg h1]
  by_cases h2 : r = 1 ∧ p = 0
  · rw [if_pos h2]; exact ⟨fun _ => .inr (.inl h2), fun _ => by decide⟩
  rw [if_neg h2]
  by_cases h3 : r = 0 ∧ p = 1
  · rw [if_pos h3]; exact ⟨fun _ => .inr (.inr (.inl h3)), fun _ => by decide⟩
  rw [if_neg h3]
  by_cases h4 : r = 0
  · subst h4
    rw [if_pos rfl]
    match p with
    | 0 => exact ⟨fun _ => .inr (.inr (.inr ⟨rfl, rfl⟩)), fun _ => by decide⟩
    | 1 => exact absurd ⟨rfl, rfl⟩ h3
    | 2 => exact ⟨fun h => absurd rfl h, fun h => by omega⟩
    | 3 => exact absurd ⟨rfl, rfl⟩ h1
    | p + 4 =>
      have e1 : ex7P.getD (2 * (p + 4) + 1) 0 = 0 := by rw [List.getD_eq_getElem?_getD, List.getElem?_eq_none (by show 8 ≤ _; omega)]; rfl
      have e2 : ex7P.getD (2 * (p + 4)) 0 = 0 := by rw [List.getD_eq_getElem?_getD, List.getElem?_eq_none (by show 8 ≤ _; omega)]; rfl
      rw [e1, e2]
      exact ⟨fun h => absurd rfl h, fun h => by omega⟩
  · rw [if_neg h4]; exact ⟨fun h => absurd rfl h, fun h => by omega⟩
theorem ex7_won (x : WnX) (h : WonA ex7M x) : x.kv.length = 4 := by
  have hp : (x.kv.map Prod.fst).Perm [mK 0 3, mK 1 0, mK 0 1, mK 0 0] := by
    refine (List.perm_ext_iff_of_nodup h.s.nd ?_).2 fun k => ?_
    · rw [List.nodup_iff_pairwise_ne]
      refine .cons (fun k hk => ?_) (.cons (fun k hk => ?_) (.cons (fun k hk => ?_) (.cons (fun k hk => (by cases hk)) .nil)))
      · simp only [List.mem_cons, List.not_mem_nil, or_false] at hk
        rcases hk with rfl | rfl | rfl <;> intro e <;> have := mK_inj e <;> omega
      · simp only [List.mem_cons, List.not_mem_nil, or_false] at hk
        rcases hk with rfl | rfl <;> intro e <;> have := mK_inj e <;> omega
      · simp only [List.mem_cons, List.not_mem_nil, or_false] at hk
        rw [hk]; intro e; have := mK_inj e; omega
    · rw [← lkp_key]
      simp only [List.mem_cons, List.not_mem_nil, or_false]
      constructor
      · intro hk
        obtain ⟨v, hv⟩ := Option.isSome_iff_exists.1 hk
        obtain ⟨r, p, rfl, -, hne⟩ := h.s.v k v hv
        rcases (ex7_at r p).1 hne with ⟨rfl, rfl⟩ | ⟨rfl, rfl⟩ | ⟨rfl, rfl⟩ | ⟨rfl, rfl⟩
        · exact .inl rfl
        · exact .inr (.inl rfl)
        · exact .inr (.inr (.inl rfl))
        · exact .inr (.inr (.inr rfl))
      · have hin : ∀ r p : Nat, ex7M r p ≠ -2 → (lkp x.kv (mK r p)).isSome = true := fun r p hne => by
          have := h.a r p hne
          unfold WonH at this
          rw [this]; rfl
        rintro (rfl | rfl | rfl | rfl)
        · exact hin _ _ ((ex7_at 0 3).2 (.inl ⟨rfl, rfl⟩))
        · exact hin _ _ ((ex7_at 1 0).2 (.inr (.inl ⟨rfl, rfl⟩)))
        · exact hin _ _ ((ex7_at 0 1).2 (.inr (.inr (.inl ⟨rfl, rfl⟩))))
        · exact hin _ _ ((ex7_at 0 0).2 (.inr (.inr (.inr ⟨rfl, rfl⟩))))
  have := hp.length_eq
  rwa [List.length_map] at this
structure E7A where
  (A B : Option Addr) (m : Nat)
theorem C_law7_Example (w : World) : CR Tryz.prog 17 [] w (fun _ : E7A => True) (fun a => .tuple #[(ex7T a.A).val, .slice a.B 3 a.m]) (fun a => [.own a.A 8 3 1 8 (enI ex7S), .own a.B a.m 54 5 3 (encSl ex7L)]) := by
  refine ⟨en Tryz.func17 Tryz.ntmps17 (St.init w) (h := fun F => ?_)⟩
  refine sq (h := ?_)
  refine rg (h := ?_)
  refine al (h := fun b0 => ?_)
  refine wy asg ?_
  refine nl (h := ?_)
  refine q_seq (h := ?_)
  refine sq (h := ?_)
  refine rg (h := ?_)
  refine bs (h := fun b1 => ?_)
  refine wy bd ?_
  refine al (h := fun b2 => ?_)
  first | refine stA (h := ?_) | refine stEA (h := ?_)
  refine nl (h := ?_)
  refine q_seq (h := ?_)
  refine sq (h := ?_)
  refine rg (h := ?_)
  refine wy (by first | exact ldA | exact ldEA) ?_
  refine wy bd ?_
  refine wy bd ?_
  refine wy bd ?_
  refine bs (h := fun b3 => ?_)
  first | refine stA (h := ?_) | refine stEA (h := ?_)
  refine wy asg ?_
  refine nl (h := ?_)
  refine q_seq (h := ?_)
  refine rtn (h := ?_)
  refine q_ret (hR := ?_)
  exact fun w hS => ⟨⟨_, _, _⟩, trivial, rfl, hS.sub slz_⟩
set_option maxRecDepth 100000 in
set_option maxHeartbeats 1000000 in
theorem C_top_scheduled (w : World) : C0 Tryz.prog 5 [] w (.bool true) := by
  refine ⟨en Tryz.func5 Tryz.ntmps5 (St.init w) (h := fun F => ?_)⟩
  refine sq (h := ?_)
  refine rg (h := ?_)
  refine wy asg ?_
  refine nl (h := ?_)
  refine q_seq (h := ?_)
  refine sq (h := ?_)
  refine rg (h := ?_)
  refine cl (hc := fun w hS => C_law06_Example w) (h := fun x0 _ => ?_)
  refine wy mv ?_
  refine wy ex ?_
  refine wy ex ?_
  refine al (h := fun b0 => ?_)
  refine al (h := fun b1 => ?_)
  first | refine stA (h := ?_) | refine stEA (h := ?_)
  first | refine stA (h := ?_) | refine stEA (h := ?_)
  refine nl (h := ?_)
  refine q_seq (h := ?_)
  refine sq (h := ?_)
  refine rg (h := ?_)
  refine wy (by first | exact ldA | exact ldEA) ?_
  refine cl (hc := fun w hS => C_dr_Draw exPD ⟨x0.A1, x0.A2, 3, 2⟩ (by decide) w ⟨hS.get (by repeat (first | exact Rds.own | apply Rds.there)), hS.get (by repeat (first | exact Rds.own | apply Rds.there)), by decide, by decide, Nat.le_refl _⟩) (h := fun x1 _ => ?_)
  rw [ex_draw]
  refine wy mv ?_
  refine wy ex ?_
  refine wy ex ?_
  refine wy asg ?_
  refine wy asg ?_
  refine nl (h := ?_)
  refine q_seq (h := ?_)
  refine sq (h := ?_)
  refine rg (h := ?_)
  refine cl (hc := fun w hS => C_law7_Example w) (h := fun x2 _ => ?_)
  refine wy mv ?_
  refine wy ex ?_
  refine wy ex ?_
  refine al (h := fun b2 => ?_)
  first | refine stA (h := ?_) | refine stEA (h := ?_)
  refine wy asg ?_
  refine nl (h := ?_)
  refine q_seq (h := ?_)
  refine sq (h := ?_)
  refine rg (h := ?_)
  refine wy (by first | exact ldA | exact ldEA) ?_
  refine wy mv ?_
  refine cl0 (hc := fun w hS => C_br_Left (ex7T x2.A) ex7L ⟨ex7P, ex7M⟩ (ex7_agr x2.A) 4 ex7_won (by decide) (by exact Nat.le_refl 8) x2.B x2.m w (hS.get rdz_) (hS.get rdz_)) (h := ?_)
  refine wy mv ?_
  refine wy ex ?_
  refine wy ex ?_
  refine wy asg ?_
  refine wy asg ?_
  refine nl (h := ?_)
  refine q_seq (h := ?_)
  refine sq (h := ?_)
  refine rg (h := ?_)
  refine cl (hc := fun w hS => C_law8_Example w) (h := fun a _ => ?_)
  refine wy mv ?_
  refine wy ex ?_
  refine wy ex ?_
  refine al (h := fun b3 => ?_)
  first | refine stA (h := ?_) | refine stEA (h := ?_)
  refine wy asg ?_
  refine nl (h := ?_)
  refine q_seq (h := ?_)
  refine sq (h := ?_)
  refine rg (h := ?_)
  refine wy (by first | exact ldA | exact ldEA) ?_
  refine wy mv ?_
  refine cl0 (hc := fun w hS => C_play_Fits (exPg a) (ex8_p a) exOr (ex8_o a) (ex8_f a) a.oA 3 a.oc w (ex8_R (hS.get (by repeat (first | exact Rds.own | apply Rds.there))) (hS.get (by repeat (first | exact Rds.own | apply Rds.there))) (hS.get (by repeat (first | exact Rds.own | apply Rds.there))) (hS.get (by repeat (first | exact Rds.own | apply Rds.there))) (hS.get (by repeat (first | exact Rds.own | apply Rds.there)))) (hS.get (by repeat (first | exact Rds.own | apply Rds.there)))) (h := ?_)
  refine wy mv ?_
  refine wy ex ?_
  refine wy ex ?_
  refine wy ex ?_
  refine wy asg ?_
  refine wy asg ?_
  refine wy asg ?_
  refine nl (h := ?_)
  refine q_seq (h := ?_)
  refine sq (h := ?_)
  refine rg (h := ?_)
  refine wy mv ?_
  refine wy eql ?_
  refine wy mv ?_
  apply brAnd 3 46 49 (by exact rfl)
  · intro hb0
    refine un (h := ?_)
    refine wy mv ?_
    refine un (h := ?_)
    refine wy eql ?_
    refine wy (by first | exact pkT | exact pkF) ?_
    exact mg (by repeat (first | exact trivial | refine ⟨rfl, ?_⟩ | refine ⟨by rw [hb0]; rfl, ?_⟩)) slz_
  · intro hb0
    repeat (first | refine un (h := ?_) | refine sk (h := ?_) | refine WL.y (hy := pkF) (h := ?_) | refine WL.y (hy := pkT) (h := ?_))
    exact mg (by repeat (first | exact trivial | refine ⟨rfl, ?_⟩ | refine ⟨by rw [hb0]; rfl, ?_⟩)) slz_
  refine wy mv ?_
  apply brAnd 3 50 53 (by exact rfl)
  · intro hb1
    refine un (h := ?_)
    refine wy mv ?_
    refine un (h := ?_)
    refine wy eql ?_
    refine wy (by first | exact pkT | exact pkF) ?_
    exact mg (by repeat (first | exact trivial | refine ⟨rfl, ?_⟩ | refine ⟨by rw [hb1]; rfl, ?_⟩)) slz_
  · intro hb1
    repeat (first | refine un (h := ?_) | refine sk (h := ?_) | refine WL.y (hy := pkF) (h := ?_) | refine WL.y (hy := pkT) (h := ?_))
    exact mg (by repeat (first | exact trivial | refine ⟨rfl, ?_⟩ | refine ⟨by rw [hb1]; rfl, ?_⟩)) slz_
  refine wy mv ?_
  apply brAnd 4 54 58 (by exact rfl)
  · intro hb2
    refine un (h := ?_)
    refine wy mv ?_
    refine un (h := ?_)
    refine wy lenS ?_
    refine un (h := ?_)
    refine wy eql ?_
    refine wy (by first | exact pkT | exact pkF) ?_
    exact mg (by repeat (first | exact trivial | refine ⟨rfl, ?_⟩ | refine ⟨by rw [hb2]; rfl, ?_⟩)) slz_
  · intro hb2
    repeat (first | refine un (h := ?_) | refine sk (h := ?_) | refine WL.y (hy := pkF) (h := ?_) | refine WL.y (hy := pkT) (h := ?_))
    exact mg (by repeat (first | exact trivial | refine ⟨rfl, ?_⟩ | refine ⟨by rw [hb2]; rfl, ?_⟩)) slz_
  refine wy mv ?_
  apply brAnd 5 59 64 (by exact rfl)
  · intro hb3
    refine un (h := ?_)
    refine wy mv ?_
    refine un (h := ?_)
    refine wy (ix (A := x1.1) (m := 4) (hb := by decide)) ?_
    refine un (h := ?_)
    refine wy (ldE (A := x1.1) (k := 2) (cs := [.int .i64 30]) (hk := rfl)) ?_
    refine un (h := ?_)
    refine wy eql ?_
    refine wy (by first | exact pkT | exact pkF) ?_
    exact mg (by repeat (first | exact trivial | refine ⟨rfl, ?_⟩ | refine ⟨by rw [hb3]; rfl, ?_⟩)) slz_
  · intro hb3
    repeat (first | refine un (h := ?_) | refine sk (h := ?_) | refine WL.y (hy := pkF) (h := ?_) | refine WL.y (hy := pkT) (h := ?_))
    exact mg (by repeat (first | exact trivial | refine ⟨rfl, ?_⟩ | refine ⟨by rw [hb3]; rfl, ?_⟩)) slz_
  refine wy mv ?_
  apply brAnd 3 65 68 (by exact rfl)
  · intro hb4
    refine un (h := ?_)
    refine wy mv ?_
    refine un (h := ?_)
    refine wy eql ?_
    refine wy (by first | exact pkT | exact pkF) ?_
    exact mg (by repeat (first | exact trivial | refine ⟨rfl, ?_⟩ | refine ⟨by rw [hb4]; rfl, ?_⟩)) slz_
  · intro hb4
    repeat (first | refine un (h := ?_) | refine sk (h := ?_) | refine WL.y (hy := pkF) (h := ?_) | refine WL.y (hy := pkT) (h := ?_))
    exact mg (by repeat (first | exact trivial | refine ⟨rfl, ?_⟩ | refine ⟨by rw [hb4]; rfl, ?_⟩)) slz_
  refine wy mv ?_
  apply brAnd 2 69 71 (by exact rfl)
  · intro hb5
    refine un (h := ?_)
    refine wy mv ?_
    refine wy (by first | exact pkT | exact pkF) ?_
    exact mg (by repeat (first | exact trivial | refine ⟨rfl, ?_⟩ | refine ⟨by rw [hb5]; rfl, ?_⟩)) slz_
  · intro hb5
    repeat (first | refine un (h := ?_) | refine sk (h := ?_) | refine WL.y (hy := pkF) (h := ?_) | refine WL.y (hy := pkT) (h := ?_))
    exact mg (by repeat (first | exact trivial | refine ⟨rfl, ?_⟩ | refine ⟨by rw [hb5]; rfl, ?_⟩)) slz_
  refine wy mv ?_
  apply brAnd 3 72 75 (by exact rfl)
  · intro hb6
    refine un (h := ?_)
    refine wy mv ?_
    refine un (h := ?_)
    refine wy eql ?_
    refine wy (by first | exact pkT | exact pkF) ?_
    exact mg (by repeat (first | exact trivial | refine ⟨rfl, ?_⟩ | refine ⟨by rw [hb6]; rfl, ?_⟩)) slz_
  · intro hb6
    repeat (first | refine un (h := ?_) | refine sk (h := ?_) | refine WL.y (hy := pkF) (h := ?_) | refine WL.y (hy := pkT) (h := ?_))
    exact mg (by repeat (first | exact trivial | refine ⟨rfl, ?_⟩ | refine ⟨by rw [hb6]; rfl, ?_⟩)) slz_
  refine wy asg ?_
  refine nl (h := ?_)
  refine q_seq (h := ?_)
  refine rtn (h := ?_)
  refine q_ret (hR := ?_)
  exact fun w hS => ⟨by first | rfl | simp [resV], hS.sub .nil⟩
end Go.Proofs.YtmlhnajgiopfgaaGreat

namespace Go.Proofs.YtmlhnajgiopfgaaGreat
open Go Go.RowKit

structure Hl where
  (dA : Option Addr) (dc : Nat) (days : List Dy) (rest : Int) (gA : Option Addr) (gc : Nat) (sg : List Stg)
abbrev Hl.cells (h : Hl) : List Value := [.slice h.dA h.days.length h.dc, .int .i64 h.rest, .slice h.gA h.sg.length h.gc]
abbrev Hl.val (h : Hl) : Value := .agg #[.slice h.dA h.days.length h.dc, .int .i64 h.rest, .slice h.gA h.sg.length h.gc]
abbrev Hl.pg (h : Hl) (jA : Option Addr) (jc : Nat) (js : List Jb) : Pg := ⟨h.dA, h.dc, h.days, h.rest, jA, jc, js⟩
structure HlR (w : World) (h : Hl) : Prop where
  d : Rd w h.dA 1 h.days.length (encDy h.days)
  s : ∀ d ∈ h.days, Rd w d.A 2 d.sp.length (encSn d.sp)
  g : Rd w h.gA 3 h.sg.length (encStg h.sg)
  dn : h.days.length ≤ 9223372036854775807
  sn : ∀ d ∈ h.days, d.sp.length ≤ 9223372036854775807
  gn : h.sg.length ≤ 9223372036854775807
theorem HlR.pg {w : World} {h : Hl} (H : HlR w h) : PgR w (h.pg none 0 []) :=
  ⟨H.d, Rd.nil w none 6, H.s, fun x hx => (by cases hx), fun x hx => (by cases hx), H.dn, Nat.zero_le _, H.sn, fun x hx => (by cases hx), fun x hx => (by cases hx)⟩
theorem C_ref8_CheckN (p : Pg) (hp : ¬ POk p) (w : World) (h : PgR w p) : CR Tryz.prog 8 [p.val] w (fun e : Int => e ≠ 0) (fun e => .int .i64 e) (fun _ => []) :=
  ⟨Calls.mono (C_ref8_Check p w h).out fun e w' ⟨x, h1, h2⟩ => ⟨x, fun h9 => hp (h1 h9), h2⟩⟩
structure SmH (h : Hl) : Prop where
  ok : POk (h.pg none 0 [])
  sg : h.sg.length ≤ 10
  mul : h.days.length * (h.pg none 0 []).nc ≤ 4
noncomputable def smB (h : Hl) : Bool := @decide (SmH h) (Classical.propDecidable _)
theorem smB_iff {h : Hl} : smB h = true ↔ SmH h := by unfold smB; simp
theorem smB_no {h : Hl} (hn : ¬ SmH h) : smB h = false := by
  cases e : smB h with
  | false => rfl
  | true => exact absurd (smB_iff.1 e) hn
theorem smB_mul {h : Hl} (hp : POk (h.pg none 0 [])) (hs : h.sg.length ≤ 10) : smB h = decide ((h.days.length : Int) * ((h.pg none 0 []).nc : Nat) ≤ 4) := by
  rw [Bool.eq_iff_iff, smB_iff, decide_eq_true_eq]
  constructor
  · intro hk; exact_mod_cast hk.mul
  · intro hk; exact ⟨hp, hs, by exact_mod_cast hk⟩
set_option maxRecDepth 100000 in
theorem C_top_small1 (h : Hl) (hp : POk (h.pg none 0 [])) (w : World) (H : HlR w h) : C0 Tryz.prog 4 [h.val] w (.bool (smB h)) := by
  have hnd := hp.nd
  have hnc := hp.nc
  have hgn := H.gn
  dsimp only at hnd
  obtain ⟨d0, hd0⟩ : ∃ d, h.days[0]? = some d := ⟨_, List.getElem?_eq_getElem (by omega)⟩
  have hn0 : d0.sp.length = (h.pg none 0 []).nc := nc_first (p := h.pg none 0 []) hd0
  refine ⟨en Tryz.func4 Tryz.ntmps4 ((St.init w).share (e := .ro h.dA 1 h.days.length (encDy h.days)) H.d rfl rfl rfl) (h := fun F => ?_)⟩
  refine sq (h := ?_)
  refine rg (h := ?_)
  refine bxA (h := fun b0 => ?_)
  refine wy asg ?_
  refine nl (h := ?_)
  refine q_seq (h := ?_)
  refine sq (h := ?_)
  refine sq (h := ?_)
  refine rg (h := ?_)
  refine wy (by first | exact fa | exact faE) ?_
  refine wy (by first | exact ld | exact ldE) ?_
  refine wy lenS ?_
  refine wy gtr ?_
  refine wy mv ?_
  apply brOr 5 8 13 (by exact rfl)
  · intro hb0
    refine un (h := ?_)
    refine wy (by first | exact fa | exact faE) ?_
    refine un (h := ?_)
    refine wy (by first | exact ld | exact ldE) ?_
    refine un (h := ?_)
    refine wy lenS ?_
    refine un (h := ?_)
    refine wy gtr ?_
    refine wy (by first | exact pkT | exact pkF) ?_
    exact mg (by repeat (first | exact trivial | refine ⟨rfl, ?_⟩ | refine ⟨by rw [hb0]; rfl, ?_⟩)) slz_
  · intro hb0
    repeat (first | refine un (h := ?_) | refine sk (h := ?_) | refine WL.y (hy := pkF) (h := ?_) | refine WL.y (hy := pkT) (h := ?_))
    exact mg (by repeat (first | exact trivial | refine ⟨rfl, ?_⟩ | refine ⟨by rw [hb0]; rfl, ?_⟩)) slz_
  refine nl (h := ?_)
  refine q_seq (h := ?_)
  refine cd (by exact rfl) (fun h1 => ?_) (fun h1 => ?_)
  · skip
    have hbad : ¬ SmH h := fun hk => by
      have h9 := h1
      rw [Bool.or_eq_true, decide_eq_true_eq, decide_eq_true_eq] at h9
      have := hk.sg
      omega
    refine sq (h := ?_)
    refine rg (h := ?_)
    refine wy asg ?_
    refine nl (h := ?_)
    refine q_seq (h := ?_)
    refine rtn (h := ?_)
    refine q_then_ret (h := ?_)
    refine q_ret (hR := ?_)
    first
      | (have e9 := hbad; exact fun w hS => ⟨by rw [smB_no hbad]; rfl, hS.sub .nil⟩)
      | exact fun w hS => ⟨by rw [smB_mul hp (by omega), hn0]; rfl, hS.sub .nil⟩
  · skip
    have h9 := h1
    rw [Bool.or_eq_false_iff, decide_eq_false_iff_not, decide_eq_false_iff_not] at h9
    refine skp (h := ?_)
    refine q_seq (h := ?_)
    refine sq (h := ?_)
    refine sq (h := ?_)
    refine rg (h := ?_)
    refine wy asg ?_
    refine WL.cut (by repeat (first | exact Cut.nil | apply Cut.hit | apply Cut.miss (by exact rfl))) ?_
    refine nl (h := ?_)
    refine q_seq (h := ?_)
    refine bk (h := ?_)
    refine lp (X := Nat) (I := fun k => k ≤ h.days.length) (le := fun k => [(1, .pointer (some ⟨b0, 0, none⟩)), (3, .int .i64 k)]) (Le := fun _ => [.blk b0 29 h.cells, .ro h.dA 1 h.days.length (encDy h.days)]) (μ := fun k => h.days.length - k) 0 (Nat.zero_le _) sbz_ slz_ (fun k hk => ?_)
    refine sq (h := ?_)
    refine sq (h := ?_)
    refine rg (h := ?_)
    refine wy mv ?_
    refine wy (by first | exact fa | exact faE) ?_
    refine wy (by first | exact ld | exact ldE) ?_
    refine wy lenS ?_
    refine wy lss ?_
    refine nl (h := ?_)
    refine q_seq (h := ?_)
    refine cd (by exact rfl) (fun h2 => ?_) (fun h2 => ?_)
    · skip
      have hkn : k < h.days.length := by have := of_decide_eq_true h2; omega
      obtain ⟨d, hd⟩ : ∃ d, h.days[k]? = some d := ⟨_, List.getElem?_eq_getElem hkn⟩
      have hdl : d.sp.length = (h.pg none 0 []).nc := (hp.dy k d hkn hd).1
      refine skp (h := ?_)
      refine q_seq (h := ?_)
      refine sq (h := ?_)
      refine bk (h := ?_)
      refine sq (h := ?_)
      refine rg (h := ?_)
      refine wy (by first | exact fa | exact faE) ?_
      refine wy (by first | exact ld | exact ldE) ?_
      refine wy mv ?_
      refine wy (ix (A := h.dA) (m := h.days.length) (hb := by omega)) ?_
      refine wy (ldE (A := h.dA) (hk := encDy_at hd)) ?_
      refine wy lenS ?_
      refine wy ((Yd.fl (gtr) (by exact decide_eq_false (by omega)))) ?_
      refine nl (h := ?_)
      refine q_seq (h := ?_)
      refine cdF (h := ?_)
      refine skp (h := ?_)
      refine q_blk_norm (h := ?_)
      refine q_seq (h := ?_)
      refine rg (h := ?_)
      refine wy mv ?_
      refine wy addI ?_
      refine wy asg ?_
      refine WL.cut (by repeat (first | exact Cut.nil | apply Cut.hit | apply Cut.miss (by exact rfl))) ?_
      refine nl (h := ?_)
      refine rn (x := k) (k + 1) hkn (by omega) sbz_ slz_
    · skip
      refine et (h := ?_)
      refine q_then_exit (h := ?_)
      refine q_then_exit (h := ?_)
      refine q_blk_hit (h := ?_)
      refine q_seq (h := ?_)
      refine sq (h := ?_)
      refine rgD (by kernel_rfl) [(1000000, .blk b0 29 h.cells), (1000000, .ro h.dA 1 h.days.length (encDy h.days))] (by repeat (first | exact HS.nil | (apply HS.keep; (repeat (first | exact At.here | apply At.there))) | (apply HS.ro; (repeat (first | exact Rds.ro | exact Rds.own | apply Rds.there))))) (h := ?_)
      refine tk 0 (hy := (by first | exact fa | exact faE)) (h := ?_)
      refine tk 1 (hy := (by first | exact ld | exact ldE)) (h := ?_)
      refine tk 2 (hy := (by first | exact fa | exact faE)) (h := ?_)
      refine tk 3 (hy := (by first | exact ld | exact ldE)) (h := ?_)
      refine tk 4 (hy := bd) (h := ?_)
      refine one 5 (h := ?_)
      refine cl0 (hc := fun w hS => C_ref8_CheckV (h.pg none 0 []) hp (fun j hj => (by cases hj)) w (H.pg.old hS)) (h := ?_)
      refine nx (h := ?_)
      refine tk 6 (hy := (Yd.tr (eql) (by decide))) (h := ?_)
      refine tk 7 (hy := mv) (h := ?_)
      refine tk 8 (hy := (by first | exact fa | exact faE)) (h := ?_)
      refine tk 9 (hy := (by first | exact ld | exact ldE)) (h := ?_)
      refine tk 10 (hy := lenS) (h := ?_)
      refine tk 11 (hy := (by first | exact fa | exact faE)) (h := ?_)
      refine tk 12 (hy := (by first | exact ld | exact ldE)) (h := ?_)
      refine tk 13 (hy := ix (A := h.dA) (m := h.days.length) (hb := by omega)) (h := ?_)
      refine tk 14 (hy := ldE (A := h.dA) (k := 0) (hk := encDy_at hd0)) (h := ?_)
      refine tk 15 (hy := lenS) (h := ?_)
      refine tk 16 (hy := mulI (hb := by rw [hn0]; generalize h.days.length = a at hnd ⊢; generalize (h.pg none 0 []).nc = b at hnc ⊢; have h1 : 0 ≤ (a : Int) * b := Int.mul_nonneg (by omega) (by omega); have h2 : (a : Int) * b ≤ 3 * 3 := Int.mul_le_mul (by omega) (by omega) (by omega) (by omega); omega)) (h := ?_)
      refine tk 17 (hy := leq) (h := ?_)
      refine tk 18 (hy := (by first | exact pkT | exact pkF)) (h := ?_)
      refine tk 19 (hy := asg) (h := ?_)
      refine dn (h := ?_)
      refine q_seq (h := ?_)
      refine rtn (h := ?_)
      refine q_ret (hR := ?_)
      first
        | (have e9 := hbad; exact fun w hS => ⟨by rw [smB_no hbad]; rfl, hS.sub .nil⟩)
        | exact fun w hS => ⟨by rw [smB_mul hp (by omega), hn0]; rfl, hS.sub .nil⟩
set_option maxRecDepth 100000 in
theorem C_top_small0 (h : Hl) (hp : ¬ POk (h.pg none 0 [])) (w : World) (H : HlR w h) : C0 Tryz.prog 4 [h.val] w (.bool (smB h)) := by
  have hgn := H.gn
  have hdn := H.dn
  have hbad : ¬ SmH h := fun hk => hp hk.ok
  have hdD : ∀ (k : Nat) (d : Dy), h.days[k]? = some d → d.sp.length ≤ 9223372036854775807 := fun k d hd => H.sn d (List.mem_of_getElem? hd)
  rw [smB_no hbad]
  refine ⟨en Tryz.func4 Tryz.ntmps4 ((St.init w).share (e := .ro h.dA 1 h.days.length (encDy h.days)) H.d rfl rfl rfl) (h := fun F => ?_)⟩
  refine sq (h := ?_)
  refine rg (h := ?_)
  refine bxA (h := fun b0 => ?_)
  refine wy asg ?_
  refine nl (h := ?_)
  refine q_seq (h := ?_)
  refine sq (h := ?_)
  refine sq (h := ?_)
  refine rg (h := ?_)
  refine wy (by first | exact fa | exact faE) ?_
  refine wy (by first | exact ld | exact ldE) ?_
  refine wy lenS ?_
  refine wy gtr ?_
  refine wy mv ?_
  apply brOr 5 8 13 (by exact rfl)
  · intro hb0
    refine un (h := ?_)
    refine wy (by first | exact fa | exact faE) ?_
    refine un (h := ?_)
    refine wy (by first | exact ld | exact ldE) ?_
    refine un (h := ?_)
    refine wy lenS ?_
    refine un (h := ?_)
    refine wy gtr ?_
    refine wy (by first | exact pkT | exact pkF) ?_
    exact mg (by repeat (first | exact trivial | refine ⟨rfl, ?_⟩ | refine ⟨by rw [hb0]; rfl, ?_⟩)) slz_
  · intro hb0
    repeat (first | refine un (h := ?_) | refine sk (h := ?_) | refine WL.y (hy := pkF) (h := ?_) | refine WL.y (hy := pkT) (h := ?_))
    exact mg (by repeat (first | exact trivial | refine ⟨rfl, ?_⟩ | refine ⟨by rw [hb0]; rfl, ?_⟩)) slz_
  refine nl (h := ?_)
  refine q_seq (h := ?_)
  refine cd (by exact rfl) (fun h1 => ?_) (fun h1 => ?_)
  · skip
    refine sq (h := ?_)
    refine rg (h := ?_)
    refine wy asg ?_
    refine nl (h := ?_)
    refine q_seq (h := ?_)
    refine rtn (h := ?_)
    refine q_then_ret (h := ?_)
    refine q_ret (hR := ?_)
    exact fun w hS => ⟨rfl, hS.sub .nil⟩
  · skip
    refine skp (h := ?_)
    refine q_seq (h := ?_)
    refine sq (h := ?_)
    refine sq (h := ?_)
    refine rg (h := ?_)
    refine wy asg ?_
    refine WL.cut (by repeat (first | exact Cut.nil | apply Cut.hit | apply Cut.miss (by exact rfl))) ?_
    refine nl (h := ?_)
    refine q_seq (h := ?_)
    refine bk (h := ?_)
    refine lp (X := Nat) (I := fun k => k ≤ h.days.length) (le := fun k => [(1, .pointer (some ⟨b0, 0, none⟩)), (3, .int .i64 k)]) (Le := fun _ => [.blk b0 29 h.cells, .ro h.dA 1 h.days.length (encDy h.days)]) (μ := fun k => h.days.length - k) 0 (Nat.zero_le _) sbz_ slz_ (fun k hk => ?_)
    refine sq (h := ?_)
    refine sq (h := ?_)
    refine rg (h := ?_)
    refine wy mv ?_
    refine wy (by first | exact fa | exact faE) ?_
    refine wy (by first | exact ld | exact ldE) ?_
    refine wy lenS ?_
    refine wy lss ?_
    refine nl (h := ?_)
    refine q_seq (h := ?_)
    refine cd (by exact rfl) (fun h2 => ?_) (fun h2 => ?_)
    · skip
      have hkn : k < h.days.length := by have := of_decide_eq_true h2; omega
      obtain ⟨d, hd⟩ : ∃ d, h.days[k]? = some d := ⟨_, List.getElem?_eq_getElem hkn⟩
      have hdl := hdD k d hd
      refine skp (h := ?_)
      refine q_seq (h := ?_)
      refine sq (h := ?_)
      refine bk (h := ?_)
      refine sq (h := ?_)
      refine rg (h := ?_)
      refine wy (by first | exact fa | exact faE) ?_
      refine wy (by first | exact ld | exact ldE) ?_
      refine wy mv ?_
      refine wy (ix (A := h.dA) (m := h.days.length) (hb := by omega)) ?_
      refine wy (ldE (A := h.dA) (hk := encDy_at hd)) ?_
      refine wy lenS ?_
      refine wy gtr ?_
      refine nl (h := ?_)
      refine q_seq (h := ?_)
      refine cd (by exact rfl) (fun h3 => ?_) (fun h3 => ?_)
      · skip
        refine sq (h := ?_)
        refine rg (h := ?_)
        refine wy asg ?_
        refine nl (h := ?_)
        refine q_seq (h := ?_)
        refine rtn (h := ?_)
        refine q_blk_ret (h := ?_)
        refine q_then_ret (h := ?_)
        refine q_then_ret (h := ?_)
        refine q_blk_ret (h := ?_)
        refine q_then_ret (h := ?_)
        refine q_ret (hR := ?_)
        exact fun w hS => ⟨rfl, hS.sub .nil⟩
      · skip
        refine skp (h := ?_)
        refine q_blk_norm (h := ?_)
        refine q_seq (h := ?_)
        refine rg (h := ?_)
        refine wy mv ?_
        refine wy (addI (hb := by omega)) ?_
        refine wy asg ?_
        refine WL.cut (by repeat (first | exact Cut.nil | apply Cut.hit | apply Cut.miss (by exact rfl))) ?_
        refine nl (h := ?_)
        refine rn (x := k) (k + 1) hkn (by omega) sbz_ slz_
    · skip
      refine et (h := ?_)
      refine q_then_exit (h := ?_)
      refine q_then_exit (h := ?_)
      refine q_blk_hit (h := ?_)
      refine q_seq (h := ?_)
      refine sq (h := ?_)
      refine rgD (by kernel_rfl) [(1000000, .blk b0 29 h.cells), (1000000, .ro h.dA 1 h.days.length (encDy h.days))] (by repeat (first | exact HS.nil | (apply HS.keep; (repeat (first | exact At.here | apply At.there))) | (apply HS.ro; (repeat (first | exact Rds.ro | exact Rds.own | apply Rds.there))))) (h := ?_)
      refine tk 0 (hy := (by first | exact fa | exact faE)) (h := ?_)
      refine tk 1 (hy := (by first | exact ld | exact ldE)) (h := ?_)
      refine tk 2 (hy := (by first | exact fa | exact faE)) (h := ?_)
      refine tk 3 (hy := (by first | exact ld | exact ldE)) (h := ?_)
      refine tk 4 (hy := bd) (h := ?_)
      refine one 5 (h := ?_)
      refine cl (hc := fun w hS => C_ref8_CheckN (h.pg none 0 []) hp w (H.pg.old hS)) (h := fun x0 hx0 => ?_)
      refine nx (h := ?_)
      refine tk 6 (hy := (Yd.fl (eql) (by exact decide_eq_false hx0))) (h := ?_)
      refine tk 7 (hy := mv) (h := ?_)
      refine tkS 8 (h := ?_)
      refine tkS 9 (h := ?_)
      refine tkS 10 (h := ?_)
      refine tkS 11 (h := ?_)
      refine tkS 12 (h := ?_)
      refine tkS 13 (h := ?_)
      refine tkS 14 (h := ?_)
      refine tkS 15 (h := ?_)
      refine tkS 16 (h := ?_)
      refine tkS 17 (h := ?_)
      refine tk 18 (hy := (by first | exact pkT | exact pkF)) (h := ?_)
      refine tk 19 (hy := asg) (h := ?_)
      refine dn (h := ?_)
      refine q_seq (h := ?_)
      refine rtn (h := ?_)
      refine q_ret (hR := ?_)
      exact fun w hS => ⟨rfl, hS.sub .nil⟩
theorem C_top_small (h : Hl) (w : World) (H : HlR w h) : C0 Tryz.prog 4 [h.val] w (.bool (smB h)) := by
  by_cases hp : POk (h.pg none 0 [])
  · exact C_top_small1 h hp w H
  · exact C_top_small0 h hp w H

abbrev seatG : List Sp := [.int .i64, .int .i64]
abbrev dyG : List Sp := [.sl seatG]
abbrev stgG : List Sp := [.int .i64, .int .i64, .int .i64]
abbrev slipG : List Sp := [.int .i64, .int .i64, .int .i64, .int .i64, .int .i64]
abbrev treeG : List Sp := [.int .i64, .sl [.int .i64]]
abbrev winG : List Sp := [.sl dyG, .int .i64, .sl stgG, .int .i64]
theorem tree_open {w : World} {cs : List Value} (h : Mts w treeG cs) : ∃ t : Tre, Value.agg cs.toArray = t.val ∧ Rd w t.A 1 t.sl.length (enI t.sl) ∧ t.sl.length ≤ t.c ∧ t.c ≤ 9223372036854775807 := by
  obtain ⟨a1, cs, rfl, _, h⟩ := Mts.int_inv h
  obtain ⟨A, n, c, xs, cs, rfl, hr, hn, hx, h⟩ := h.sl_invc
  rw [h.nil_inv]
  obtain ⟨ys, rfl⟩ := map_of (f := fun x : Int => [vI x]) (xs := xs) fun x hxm => by
    obtain ⟨a, cs, rfl, _, h⟩ := (hx x hxm).int_inv
    rw [h.nil_inv]
    exact ⟨a, rfl⟩
  have hl : ys.length = n := by have := hr.len; simpa using this
  subst hl
  exact ⟨⟨a1, A, c, ys⟩, rfl, hr, hn⟩
theorem slips_open {w : World} {v : Value} (h : Mts w [.sl slipG] [v]) : ∃ (l : List Sl) (A : Option Addr) (c : Nat), v = .slice A l.length c ∧ Rd w A 5 l.length (encSl l) ∧ l.length ≤ 9223372036854775807 := by
  obtain ⟨A, n, c, xs, cs, e, hr, hn, hx, _⟩ := h.sl_inv
  obtain ⟨ys, rfl⟩ := map_of (f := Sl.cells) (xs := xs) fun x hxm => by
    obtain ⟨a1, cs, rfl, _, h⟩ := Mts.int_inv (hx x hxm)
    obtain ⟨a2, cs, rfl, _, h⟩ := h.int_inv
    obtain ⟨a3, cs, rfl, _, h⟩ := h.int_inv
    obtain ⟨a4, cs, rfl, _, h⟩ := h.int_inv
    obtain ⟨a5, cs, rfl, _, h⟩ := h.int_inv
    rw [h.nil_inv]
    exact ⟨⟨a1, a2, a3, a4, a5⟩, rfl⟩
  have hl : ys.length = n := by have := hr.len; simpa using this
  subst hl
  exact ⟨ys, A, c, by injection e, hr, hn⟩
structure Hx where
  (h : Hl) (side : Int)
abbrev Hx.val (x : Hx) : Value := .agg #[.slice x.h.dA x.h.days.length x.h.dc, .int .i64 x.h.rest, .slice x.h.gA x.h.sg.length x.h.gc, .int .i64 x.side]
abbrev Hx.cells (x : Hx) : List Value := [.slice x.h.dA x.h.days.length x.h.dc, .int .i64 x.h.rest, .slice x.h.gA x.h.sg.length x.h.gc, .int .i64 x.side]
theorem dyG_cells {w : World} {cs : List Value} (h : Mts w dyG cs) : ∃ d : Dy, cs = [.slice d.A d.sp.length d.c] ∧ Rd w d.A 2 d.sp.length (encSn d.sp) ∧ d.sp.length ≤ 9223372036854775807 := by
  obtain ⟨A, n, c, xs, cs, rfl, hr, hn, hx, h⟩ := Mts.sl_inv h
  rw [h.nil_inv]
  obtain ⟨ys, rfl⟩ := map_of (f := fun s : Sn => [.int .i64 s.1, .int .i64 s.2]) (xs := xs) fun x hxm => by
    obtain ⟨a, cs, rfl, _, h⟩ := Mts.int_inv (hx x hxm)
    obtain ⟨b, cs, rfl, _, h⟩ := h.int_inv
    rw [h.nil_inv]
    exact ⟨(a, b), rfl⟩
  have hl : ys.length = n := by have := hr.len; simpa using this
  subst hl
  exact ⟨⟨ys, A, c⟩, rfl, hr, hn⟩
theorem map_ofG {α : Type} {f : α → List Value} {p : α → Prop} : ∀ {xs : List (List Value)}, (∀ x ∈ xs, ∃ a, x = f a ∧ p a) → ∃ ys : List α, xs = ys.map f ∧ ∀ y ∈ ys, p y
  | [], _ => ⟨[], rfl, fun y hy => by cases hy⟩
  | x :: xs, h => by
    obtain ⟨a, rfl, ha⟩ := h x (by simp)
    obtain ⟨ys, rfl, hy⟩ := map_ofG (xs := xs) fun y hy => h y (by simp [hy])
    exact ⟨a :: ys, rfl, fun y hm => by
      rcases List.mem_cons.1 hm with rfl | hm
      · exact ha
      · exact hy y hm⟩
theorem winning_open {w : World} {cs : List Value} (h : Mts w winG cs) : ∃ x : Hx, Value.agg cs.toArray = x.val ∧ HlR w x.h := by
  obtain ⟨A, n, c, xs, cs, rfl, hr, hn, hx, h⟩ := Mts.sl_inv h
  obtain ⟨a1, cs, rfl, _, h⟩ := h.int_inv
  obtain ⟨B, m, d, ys, cs, rfl, hr2, hm, hy, h⟩ := h.sl_inv
  obtain ⟨a2, cs, rfl, _, h⟩ := h.int_inv
  rw [h.nil_inv]
  obtain ⟨xs, rfl, hxs⟩ := map_ofG (f := fun d : Dy => [.slice d.A d.sp.length d.c]) (p := fun d => Rd w d.A 2 d.sp.length (encSn d.sp) ∧ d.sp.length ≤ 9223372036854775807) (xs := xs) fun x hxm => dyG_cells (hx x hxm)
  obtain ⟨ys, rfl⟩ := map_of (f := Stg.cells) (xs := ys) fun x hxm => by
    obtain ⟨a, cs, rfl, _, h⟩ := Mts.int_inv (hy x hxm)
    obtain ⟨b, cs, rfl, _, h⟩ := h.int_inv
    obtain ⟨e, cs, rfl, _, h⟩ := h.int_inv
    rw [h.nil_inv]
    exact ⟨⟨(a, b), e⟩, rfl⟩
  have hl : xs.length = n := by have := hr.len; simpa using this
  have hl2 : ys.length = m := by have := hr2.len; simpa using this
  subst hl hl2
  exact ⟨⟨⟨A, c, xs, a1, B, d, ys⟩, a2⟩, rfl, hr, fun y hy => (hxs y hy).1, hr2, hn, fun y hy => (hxs y hy).2, hm⟩
end Go.Proofs.YtmlhnajgiopfgaaGreat

namespace Go.Proofs.YtmlhnajgiopfgaaGreat
open Go Go.RowKit

theorem begK_le {p : Pg} {d : DS} {job b B : Int} {k : Nat} : begK p d job b k ≤ B ↔ b ≤ B ∧ (0 < d.en k → shB p job k = true → d.en k + p.rest ≤ B) := by
  unfold begK
  by_cases h1 : 0 < d.en k
  · cases h2 : shB p job k
    · rw [decide_eq_true h1, Bool.and_false, cond_false]
      exact ⟨fun h => ⟨h, fun _ h => by cases h⟩, fun h => h.1⟩
    · rw [decide_eq_true h1, Bool.true_and, cond_true]
      constructor
      · intro h; exact ⟨by omega, fun _ _ => by omega⟩
      · intro h
        have := h.2 h1 rfl
        omega
  · rw [decide_eq_false h1, Bool.false_and, cond_false]
    exact ⟨fun h => ⟨h, fun h' => absurd h' h1⟩, fun h => h.1⟩
theorem begTil_le {p : Pg} {d : DS} {s : Se} {ear B : Int} : ∀ n, begTil p d s ear n ≤ B ↔ d.fr s.court.toNat ≤ B ∧ ear ≤ B ∧ ∀ k, k < n → 0 < d.en k → shB p s.job k = true → d.en k + p.rest ≤ B
  | 0 => by
    rw [begTil]
    constructor
    · intro h; exact ⟨by omega, by omega, fun k hk => by omega⟩
    · intro h; omega
  | n + 1 => by
    rw [begTil, begK_le, begTil_le n]
    constructor
    · rintro ⟨⟨h1, h2, h3⟩, h4⟩
      refine ⟨h1, h2, fun k hk => ?_⟩
      by_cases e : k = n
      · subst e; exact h4
      · exact h3 k (by omega)
    · rintro ⟨h1, h2, h3⟩
      exact ⟨⟨h1, h2, fun k hk => h3 k (by omega)⟩, h3 n (by omega)⟩
theorem beg_ge (p : Pg) (d : DS) (s : Se) : d.fr s.court.toNat ≤ begV p d s := ((begTil_le 6).1 (Int.le_refl (begV p d s))).1

def dayAt (p : Pg) (d : DS) (n : Int) : DS := if n = d.num then d else openD p n
def closeV (p : Pg) (s : Se) : Int := match p.days[s.day.toNat]? with
  | some d => (match d.sp[s.court.toNat]? with | some c => c.2 | none => 0)
  | none => 0
def hiL (p : Pg) (job : Int) : Int := p.len (fun s => s.2) job
def upB (f : Nat → Bool) (i : Nat) : Nat → Bool := fun j => if j = i then true else f j
structure StepP (p : Pg) (days : Int) (d : DS) (dn : Nat → Bool) (s : Se) : Prop where
  job : 0 ≤ s.job ∧ s.job < p.jobs.length
  new : dn s.job.toNat = false
  af : ∀ j, p.jobs[s.job.toNat]? = some j → ∀ x ∈ j.af, dn x.toNat = true
  day : d.num ≤ s.day ∧ s.day < days
  due : ∀ j, p.jobs[s.job.toNat]? = some j → s.day ≤ j.due
  court : 0 ≤ s.court ∧ s.court < p.nc
  fit : begV p (dayAt p d s.day) s + hiL p s.job ≤ closeV p s
def nextD (p : Pg) (d : DS) (s : Se) : DS := playD p (dayAt p d s.day) s (hiL p s.job)
def Pth (p : Pg) (days : Int) : DS → (Nat → Bool) → List Se → Prop
  | _, dn, [] => ∀ k, k < p.jobs.length → dn k = true
  | d, dn, s :: o => StepP p days d dn s ∧ Pth p days (nextD p d s) (upB dn s.job.toNat) o
def Dead (p : Pg) (days : Int) (d : DS) (dn : Nat → Bool) : Prop := ∀ o, ¬ Pth p days d dn o

def rho (own : Nat) (k : Int) : Int := if k < own then k else k - 1
def rhoN (own : Nat) (k : Nat) : Nat := if k < own then k else k - 1
theorem rho_nat {own k : Nat} (h : k ≠ own) : rho own (k : Int) = (rhoN own k : Nat) := by
  unfold rho rhoN
  by_cases e : k < own
  · rw [if_pos (by omega), if_pos e]
  · rw [if_neg (by omega), if_neg e]; omega
theorem rhoN_inj {own i j : Nat} (hi : i ≠ own) (hj : j ≠ own) (h : rhoN own i = rhoN own j) : i = j := by
  unfold rhoN at h
  split at h <;> split at h <;> omega
def sigN (own : Nat) (k : Nat) : Nat := if k < own then k else k + 1
theorem sig_ne (own k : Nat) : sigN own k ≠ own := by unfold sigN; split <;> omega
theorem rho_sig (own k : Nat) : rhoN own (sigN own k) = k := by
  unfold rhoN sigN
  by_cases h : k < own
  · rw [if_pos h, if_pos h]
  · rw [if_neg h, if_neg (by omega)]; omega
structure Rdc (p q : Pg) (own : Nat) : Prop where
  days : q.days = p.days
  rest : q.rest = p.rest
  n : q.jobs.length + 1 = p.jobs.length
  ow : own < p.jobs.length
  jb : ∀ (k : Nat) (j : Jb), k ≠ own → p.jobs[k]? = some j → ∃ j', q.jobs[rhoN own k]? = some j' ∧ (j'.len = j.len ∧ j'.due = j.due ∧ j'.ear = j.ear) ∧ (∀ x : Nat, x ≠ own → (((rhoN own x : Nat) : Int) ∈ j'.af ↔ (x : Int) ∈ j.af)) ∧ (∀ y ∈ j'.af, ∃ x : Nat, x ≠ own ∧ (x : Int) ∈ j.af ∧ y = (rhoN own x : Nat)) ∧ j'.wi = [] ∧ j.wi = []
section
variable {p q : Pg} {own : Nat}
theorem Rdc.nc (h : Rdc p q own) : q.nc = p.nc := by unfold Pg.nc; rw [h.days]
theorem Rdc.close (h : Rdc p q own) (s : Se) (j : Int) : closeV q { s with job := j } = closeV p s := by unfold closeV; rw [h.days]
theorem Rdc.open (h : Rdc p q own) (n : Int) : openD q n = openD p n := by unfold openD; rw [h.days]
theorem Rdc.lt (h : Rdc p q own) {k : Nat} (hk : k ≠ own) (hl : k < p.jobs.length) : rhoN own k < q.jobs.length := by
  have := h.n
  have := h.ow
  unfold rhoN
  split <;> omega
theorem Rdc.at (h : Rdc p q own) {k : Nat} (hk : k ≠ own) (hl : k < p.jobs.length) : ∃ j j', p.jobs[k]? = some j ∧ q.jobs[rhoN own k]? = some j' ∧ (j'.len = j.len ∧ j'.due = j.due ∧ j'.ear = j.ear) ∧ (∀ x : Nat, x ≠ own → (((rhoN own x : Nat) : Int) ∈ j'.af ↔ (x : Int) ∈ j.af)) ∧ (∀ y ∈ j'.af, ∃ x : Nat, x ≠ own ∧ (x : Int) ∈ j.af ∧ y = (rhoN own x : Nat)) ∧ j'.wi = [] ∧ j.wi = [] := by
  obtain ⟨j, hj⟩ : ∃ j, p.jobs[k]? = some j := ⟨_, List.getElem?_eq_getElem hl⟩
  obtain ⟨j', h1, h2⟩ := h.jb k j hk hj
  exact ⟨j, j', hj, h1, h2⟩
theorem rho_of {k : Int} (h0 : 0 ≤ k) (h : k.toNat ≠ own) : rho own k = (rhoN own k.toNat : Nat) := by
  have := rho_nat h
  rwa [Int.toNat_of_nonneg h0] at this
theorem Rdc.sh (h : Rdc p q own) {a b : Nat} (ha : a ≠ own) (hb : b ≠ own) (hal : a < p.jobs.length) (hbl : b < p.jobs.length) : shB q (rhoN own a : Nat) (rhoN own b : Nat) = shB p a b := by
  obtain ⟨ja, ja', h1, h2, -, h4, -, h6, h7⟩ := h.at ha hal
  obtain ⟨jb, jb', k1, k2, -, k4, -, k6, k7⟩ := h.at hb hbl
  unfold shB
  simp only [Int.toNat_natCast, h1, h2, k1, k2, h6, h7, k6, k7]
  have e1 : ja'.af.contains ((rhoN own b : Nat) : Int) = ja.af.contains (b : Int) := by
    rw [Bool.eq_iff_iff, List.contains_iff_mem, List.contains_iff_mem]; exact h4 b hb
  have e2 : jb'.af.contains ((rhoN own a : Nat) : Int) = jb.af.contains (a : Int) := by
    rw [Bool.eq_iff_iff, List.contains_iff_mem, List.contains_iff_mem]; exact k4 a ha
  rw [e1, e2]
  rfl
structure DG (p : Pg) (d : DS) : Prop where
  fr : ∀ c, (openD p d.num).fr c ≤ d.fr c
  en : ∀ k, 0 ≤ d.en k
  pos : ∀ k, 0 < d.en k → k < p.jobs.length
theorem fr_nonneg (hp : POk p) (n : Int) (c : Nat) : 0 ≤ (openD p n).fr c := by
  unfold openD
  dsimp only
  cases e : p.days[n.toNat]? with
  | none => exact Int.le_refl _
  | some d =>
    dsimp only
    have hl := (List.getElem?_eq_some_iff.1 e).1
    have hd := (hp.dy n.toNat d hl e).2
    have : ∀ k, k ≤ d.sp.length → 0 ≤ frTo d.sp k c := fun k => by
      induction k with
      | zero => intro _; exact Int.le_refl _
      | succ k ih =>
        intro hk
        obtain ⟨s, hs⟩ : ∃ s, d.sp[k]? = some s := ⟨_, List.getElem?_eq_getElem (by omega)⟩
        have := hd k s (by omega) hs
        rw [frTo, hs]
        show 0 ≤ upF (frTo d.sp k) k s.1 c
        unfold upF
        split
        · omega
        · exact ih (by omega)
    exact this _ (Nat.le_refl _)
theorem dg_open (p : Pg) (n : Int) : DG p (openD p n) := ⟨fun c => Int.le_refl _, fun k => Int.le_refl _, fun k h => absurd h (by show ¬ (0 : Int) < 0; omega)⟩
theorem day_num (p : Pg) (d : DS) (n : Int) : (dayAt p d n).num = n := by
  unfold dayAt
  split
  · next h => exact h.symm
  · rfl
theorem dg_day {d : DS} (h : DG p d) (n : Int) : DG p (dayAt p d n) := by
  unfold dayAt
  split
  · exact h
  · exact dg_open p n
theorem hiL_nonneg (hp : POk p) (j : Int) : 0 ≤ hiL p j := by
  unfold hiL Pg.len
  cases e : p.jobs[j.toNat]? with
  | none => exact Int.le_refl _
  | some x =>
    have := (hp.jb _ x (List.getElem?_eq_some_iff.1 e).1 e).len
    show 0 ≤ x.len.2
    omega
theorem dg_next (hp : POk p) {days : Int} {d : DS} {dn : Nat → Bool} {s : Se} (h : DG p d) (hs : StepP p days d dn s) : DG p (nextD p d s) := by
  have hd := dg_day h s.day
  have h0 := hiL_nonneg hp s.job
  have hb := beg_ge p (dayAt p d s.day) s
  have hf := fr_nonneg hp s.day s.court.toNat
  have hn := day_num p d s.day
  have hf2 := hd.fr s.court.toNat
  rw [hn] at hf2
  refine ⟨fun c => ?_, fun k => ?_, fun k hk => ?_⟩
  · show (openD p (dayAt p d s.day).num).fr c ≤ upF _ _ _ c
    unfold upF
    split
    · next e => rw [hn, e]; omega
    · exact hd.fr c
  · show 0 ≤ upF _ _ _ k
    unfold upF
    split
    · omega
    · exact hd.en k
  · have hk' : 0 < upF (dayAt p d s.day).en s.job.toNat (begV p (dayAt p d s.day) s + hiL p s.job) k := hk
    unfold upF at hk'
    split at hk'
    · next e => rw [e]; have := hs.job; omega
    · exact hd.pos k hk'
structure RelS (own : Nat) (dp dq : DS) : Prop where
  num : dq.num ≤ dp.num
  le : dq.num = dp.num → (∀ c, dq.fr c ≤ dp.fr c) ∧ ∀ k, k ≠ own → dq.en (rhoN own k) ≤ dp.en k
theorem rel_day (h : Rdc p q own) {dp dq : DS} (hr : RelS own dp dq) (hd : DG p dp) {n : Int} (hn : dp.num ≤ n) : (∀ c, (dayAt q dq n).fr c ≤ (dayAt p dp n).fr c) ∧ ∀ k, k ≠ own → (dayAt q dq n).en (rhoN own k) ≤ (dayAt p dp n).en k := by
  have hnum := hr.num
  by_cases e : n = dq.num
  · have e2 : dq.num = dp.num := by omega
    unfold dayAt
    rw [if_pos e, if_pos (by omega)]
    exact hr.le e2
  · have e1 : dayAt q dq n = openD p n := by unfold dayAt; rw [if_neg e, h.open]
    rw [e1]
    have hg := dg_day hd n
    refine ⟨fun c => ?_, fun k _ => ?_⟩
    · have := hg.fr c
      rwa [day_num] at this
    · exact hg.en k
theorem beg_mono (h : Rdc p q own) (hp : POk p) {Dp Dq : DS} {s : Se} (hs0 : 0 ≤ s.job) (hs1 : s.job.toNat < p.jobs.length) (hs2 : s.job.toNat ≠ own) (hfr : ∀ c, Dq.fr c ≤ Dp.fr c) (hen : ∀ k, k ≠ own → Dq.en (rhoN own k) ≤ Dp.en k) (hpos : ∀ k, 0 < Dq.en k → k < q.jobs.length) :
    begV q Dq { s with job := rho own s.job } ≤ begV p Dp s := by
  obtain ⟨h1, h2, h3⟩ := (begTil_le 6).1 (Int.le_refl (begV p Dp s))
  obtain ⟨j, j', e1, e2, e3, -⟩ := h.at hs2 hs1
  have hro := rho_of hs0 hs2
  have hn := h.n
  have hj6 := hp.nj
  refine (begTil_le 6).2 ⟨Int.le_trans (hfr _) h1, ?_, fun k' hk' hpk hsh => ?_⟩
  · have : q.ear (rho own s.job) = p.ear s.job := by
      unfold Pg.ear
      rw [hro, Int.toNat_natCast, e2, e1]
      exact e3.2.2
    show q.ear (rho own s.job) ≤ _
    rw [this]; exact h2
  · have hk2 := hpos k' hpk
    have hsn := sig_ne own k'
    have hrs := rho_sig own k'
    have hsl : sigN own k' < p.jobs.length := by unfold sigN; split <;> omega
    have hle := hen (sigN own k') hsn
    rw [hrs] at hle
    have hsh2 : shB p s.job (sigN own k' : Nat) = true := by
      have := h.sh hs2 hsn hs1 hsl
      rw [hrs, Int.toNat_of_nonneg hs0] at this
      rw [← this, ← hro]; exact hsh
    have := h3 (sigN own k') (by omega) (by omega) hsh2
    rw [h.rest]
    omega
def ren (own : Nat) (s : Se) : Se := { s with job := rho own s.job }
theorem rm_path (h : Rdc p q own) (hp : POk p) (hq : POk q) (days : Int) : ∀ (o : List Se) (dp dq : DS) (dn dn' : Nat → Bool), Pth p days dp dn o → dn own = true → RelS own dp dq → DG p dp → DG q dq → (∀ k, k ≠ own → dn' (rhoN own k) = dn k) → Pth q days dq dn' (o.map (ren own))
  | [], dp, dq, dn, dn', hP, ho, hr, hd, hdq, hdn => fun k' hk' => by
    have hn := h.n
    have hsl : sigN own k' < p.jobs.length := by unfold sigN; split <;> omega
    have := hdn (sigN own k') (sig_ne own k')
    rw [rho_sig] at this
    rw [this]; exact hP _ hsl
  | s :: o, dp, dq, dn, dn', hP, ho, hr, hd, hdq, hdn => by
    obtain ⟨hs, hP2⟩ := hP
    have hj0 := hs.job.1
    have hjl : s.job.toNat < p.jobs.length := by have := hs.job; omega
    have hjo : s.job.toNat ≠ own := fun e => by have := hs.new; rw [e, ho] at this; cases this
    have hro := rho_of (own := own) hj0 hjo
    have hrt : (rho own s.job).toNat = rhoN own s.job.toNat := by rw [hro]; rfl
    obtain ⟨j, j', e1, e2, e3, e4, e5, e6, e7⟩ := h.at hjo hjl
    have hlt := h.lt hjo hjl
    obtain ⟨hfr, hen⟩ := rel_day h hr hd hs.day.1
    have hdq2 := dg_day hdq s.day
    have hbm := beg_mono (Dp := dayAt p dp s.day) (Dq := dayAt q dq s.day) h hp hj0 hjl hjo hfr hen hdq2.pos
    have hhi : hiL q (rho own s.job) = hiL p s.job := by
      unfold hiL Pg.len
      rw [hrt, e2, e1]
      show j'.len.2 = j.len.2
      rw [e3.1]
    have hst : StepP q days dq dn' (ren own s) := by
      refine ⟨?_, ?_, fun jj hjj y hy => ?_, ⟨?_, hs.day.2⟩, fun jj hjj => ?_, ?_, ?_⟩
      · show 0 ≤ rho own s.job ∧ rho own s.job < q.jobs.length
        rw [hro]; omega
      · show dn' (rho own s.job).toNat = false
        rw [hrt, hdn _ hjo]; exact hs.new
      · have hjj' : q.jobs[(rho own s.job).toNat]? = some jj := hjj
        rw [hrt, e2] at hjj'
        rw [← Option.some.inj hjj'] at hy
        obtain ⟨x, hx1, hx2, rfl⟩ := e5 y hy
        rw [Int.toNat_natCast, hdn x hx1]
        have := hs.af j e1 x hx2
        rwa [Int.toNat_natCast] at this
      · have h1 := hr.num
        have h2 := hs.day.1
        show dq.num ≤ s.day
        omega
      · have hjj' : q.jobs[(rho own s.job).toNat]? = some jj := hjj
        rw [hrt, e2] at hjj'
        rw [← Option.some.inj hjj', e3.2.1]
        exact hs.due j e1
      · show 0 ≤ s.court ∧ s.court < q.nc
        rw [h.nc]; exact hs.court
      · have hf := hs.fit
        show begV q (dayAt q dq s.day) { s with job := rho own s.job } + hiL q (rho own s.job) ≤ closeV q { s with job := rho own s.job }
        rw [h.close, hhi]
        omega
    refine ⟨hst, rm_path h hp hq days o _ _ _ _ hP2 ?_ ⟨?_, fun _ => ⟨fun c => ?_, fun k hk => ?_⟩⟩ (dg_next hp hd hs) (dg_next hq hdq hst) fun k hk => ?_⟩
    · show upB dn s.job.toNat own = true
      unfold upB
      rw [if_neg (fun e => hjo e.symm)]; exact ho
    · show (dayAt q dq s.day).num ≤ (dayAt p dp s.day).num
      rw [day_num, day_num]; exact Int.le_refl _
    · show upF (dayAt q dq s.day).fr s.court.toNat (begV q (dayAt q dq s.day) { s with job := rho own s.job } + hiL q (rho own s.job)) c ≤ upF (dayAt p dp s.day).fr s.court.toNat (begV p (dayAt p dp s.day) s + hiL p s.job) c
      unfold upF
      by_cases e : c = s.court.toNat
      · rw [if_pos e, if_pos e, hhi]; omega
      · rw [if_neg e, if_neg e]; exact hfr c
    · show upF (dayAt q dq s.day).en (rho own s.job).toNat (begV q (dayAt q dq s.day) { s with job := rho own s.job } + hiL q (rho own s.job)) (rhoN own k) ≤ upF (dayAt p dp s.day).en s.job.toNat (begV p (dayAt p dp s.day) s + hiL p s.job) k
      unfold upF
      rw [hrt]
      by_cases e : k = s.job.toNat
      · rw [if_pos (by rw [e]), if_pos e, hhi]; omega
      · rw [if_neg (fun e' => e (rhoN_inj hk hjo e')), if_neg e]; exact hen k hk
    · show upB dn' (rho own s.job).toNat (rhoN own k) = upB dn s.job.toNat k
      unfold upB
      rw [hrt]
      by_cases e : k = s.job.toNat
      · rw [if_pos (by rw [e]), if_pos e]
      · rw [if_neg (fun e' => e (rhoN_inj hk hjo e')), if_neg e]; exact hdn k hk
theorem rm_first (h : Rdc p q own) (hp : POk p) (hq : POk q) {days : Int} {s : Se} {o : List Se} (hP : Pth p days (openD p 0) (fun _ => false) (s :: o)) (hs : s.job = own) : Pth q days (openD q 0) (fun _ => false) (o.map (ren own)) := by
  obtain ⟨h1, h2⟩ := hP
  have hd := dg_next hp (dg_open p 0) h1
  have ho : s.job.toNat = own := by rw [hs]; rfl
  have h0 := h1.day.1
  have hnum : (nextD p (openD p 0) s).num = s.day := day_num p (openD p 0) s.day
  refine rm_path h hp hq days o _ _ _ _ h2 (by show upB _ s.job.toNat own = true; unfold upB; rw [if_pos ho.symm]) ⟨?_, fun e => ?_⟩ hd (dg_open q 0) fun k hk => ?_
  · rw [hnum]; exact h0
  · refine ⟨fun c => ?_, fun k _ => hd.en k⟩
    have := hd.fr c
    rw [← e] at this
    rw [h.open]
    exact this
  · show false = upB _ s.job.toNat k
    unfold upB
    rw [if_neg (fun e => hk (e.trans ho))]
end
end Go.Proofs.YtmlhnajgiopfgaaGreat
