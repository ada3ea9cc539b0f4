/- The texts of the walk, part 5. -/
import Derived.Test.YtncoimjgjpcipaaJ4
import Derived.Shelf.SlSortCmp.WholeK
import Derived.Test.YtncoimjgjpcipaaProg
namespace Go.Proofs.Ytncoimjgjpcipaa
open Go Go.RowKit

section rules
variable {F : Fence} {P : Program} {ops : Array Oper} {Q : Exit → Act → World → Prop} {rest : List Oper} {n : Nat} {D : List Deferred} {l : Env} {w0 : World} {L M : List Ent}
theorem lenR {x : Operand} {b : Nat} {es : Array MapEntry} {c : Nat} {t k e : TypeId} (hT : MapTy P t k e := by infer_instance) (hx : ev l x = some (.map (some b)) := by exact rfl) (ha : At L (roM b es c) M := by repeat (first | exact At.here | apply At.there)) : Yd P n D l w0 L (.call { callee := .builtin .len, args := #[x], argTypes := #[t] }) (.int .i64 es.size) :=
  ⟨by simp, by simp, fun oo ho ac w hfr hst => by
    have hb : w.heap[b]? = some (.map es c) := hst _ ha.mem
    simp [execOp, ho, resolve, invoke, builtin, hfr.eval hx, Builtin.len_, run_underlying hT.und, getMap hb, goInt]⟩
end rules
theorem CrIs.size {N ns : List Nd} {es : Array MapEntry} {c : Nat} (h : CrIs N ns es c) : es.size = ns.length := by
  have := congrArg List.length (cr_kv h)
  simpa using this
theorem T_read (f : Fmt) (hf : f.Ok) (hc0 : chkF f = 0) (cf : Int) (A : Option Addr) (n c : Nat) (N ns : List Nd) (mn : Nat → Pr) (t : Nt) (ht : mkV t = true) (K : Int) (hK : K ≤ 500) (hP : PoolOk f N mn K) (b : Nat) (es : Array MapEntry) (cl : Nat) (hC : CrIs N ns es cl) :
    Tr Try.prog 54 [.agg (cardC f cf A n c).toArray, .map (some b), t.val] [poolE 103 N mn none, roM b es cl] (RdOk f N mn ns t K) (fun q => .map (some q.b)) (fun q => [poolE 103 q.N q.mn none, .obj q.b (.map q.es q.c), roM b es cl]) := by
  have hk := mk_kind ht
  by_cases h1 : t.kind = 1
  · exact T_read_noted f hf cf A n c N ns mn t K hK hP b es cl hC h1
  by_cases h2 : t.kind = 2
  · have h3 := hk.2.2.1 h2
    exact T_read_missed f hf cf A n c N ns mn t K hK hP b es cl hC h2 t.pair.2.toNat (by omega) (by omega)
  · exact T_read_test f hf hc0 cf A n c N ns mn t K hK hP b es cl hC h1 h2
structure StI (f : Fmt) (cf : Int) (xs : List Nt) (j : Nat) (q : PR) : Prop where
  ok : PoolOk f q.N q.mn (mostS (xs.take j) + (j : Int))
  cr : CrIs q.N q.ns q.es q.c
  eqC : (toC q.mn q.ns).Perm (crowdC f cf (xs.take j))
  row : ∀ y ∈ q.ns, ∃ r, RowN q.N y r ∧ Row_ f cf xs j y.s y.s.first r
theorem StI.start {f : Fmt} {cf : Int} {xs : List Nt} {q : PR} (h : BgI f cf 2 q.N q.mn q.ns q.es q.c) : StI f cf xs 0 q := by
  refine ⟨h.ok, h.cr, ?_, fun y hy => ?_⟩
  · rw [h.eqC, begTo_two]; exact .refl _
  · obtain ⟨h1, h2, h3, h4, h5⟩ := h.row y hy
    refine ⟨[], h1, ?_⟩
    rw [h2]
    exact row_begin (by omega) h3
theorem StI.read {f : Fmt} {cf : Int} {xs : List Nt} {j : Nat} {q q2 : PR} {x : Nt} (h : StI f cf xs j q) (hx : xs[j]? = some x) (hr : RdOk f q.N q.mn q.ns x (mostS (xs.take j) + (j : Int)) q2) : StI f cf xs (j + 1) q2 := by
  refine ⟨?_, hr.cr, ?_, fun y hy => ?_⟩
  · have := hr.ok
    rw [mostS_succ hx, show mostS (xs.take j) + mostN x + ((j + 1 : Nat) : Int) = mostS (xs.take j) + (j : Int) + mostN x + 1 by omega]
    exact this
  · rw [crowd_succ f cf hx]
    exact hr.eqC.trans (after_perm f x h.eqC)
  · obtain ⟨x0, hx0, r, p, h1, h2, h3, h4⟩ := hr.fr y hy
    obtain ⟨r0, h5, h6⟩ := h.row x0 hx0
    obtain rfl := h5.uniq h.ok.nd h1
    obtain ⟨r', h7, _, h8, h9⟩ := (hr.ok.ok y (hr.cr.sub y hy)).row
    obtain rfl := h7.uniq hr.ok.nd h2
    rw [h3] at h8 h9 ⊢
    exact ⟨_, h2, row_read h6 hx h8 h9 h4⟩
theorem StI.none {f : Fmt} {cf : Int} {xs : List Nt} {j : Nat} {q : PR} (h : StI f cf xs j q) : q.es.size = 0 ↔ crowdC f cf (xs.take j) = [] := by
  rw [h.cr.size, ← List.length_eq_zero_iff (l := crowdC f cf (xs.take j)), ← h.eqC.length_eq]
  unfold toC
  rw [List.length_map]
theorem bad_at {f : Fmt} {cf : Int} {xs : List Nt} {i : Nat} (hi : i < xs.length) (h0 : crowdC f cf (xs.take (i + 1)) = []) (h1 : ∀ j, j ≤ i → crowdC f cf (xs.take j) ≠ []) : badC f cf xs = i := by
  unfold badC
  rcases fstC_spec (fun i => (crowdC f cf (xs.take (i + 1))).isEmpty) xs.length with ⟨_, h3⟩ | ⟨k, hk, h2, h3, h4⟩
  · have := h3 i hi
    rw [h0] at this; cases this
  · rw [h2]
    congr 1
    by_cases e1 : k < i
    · exact absurd (List.isEmpty_iff.1 h3) (h1 (k + 1) (by omega))
    · by_cases e2 : i < k
      · have := h4 i e2
        rw [h0] at this; cases this
      · omega
structure AZ where
  (q : PR) (k : Nat)
def AllOk (f : Fmt) (cf : Int) (xs : List Nt) (o : Option PR) : Prop := match o with
  | none => chkC f cf xs ≠ 0 ∨ 0 ≤ badC f cf xs
  | some q => chkC f cf xs = 0 ∧ badC f cf xs = -1 ∧ StI f cf xs xs.length q
def allB (f : Fmt) (cf : Int) (xs : List Nt) : Int := bif decide (chkC f cf xs = 0) then badC f cf xs else 0
def allV (o : Option PR) : Value := match o with
  | none => .map none
  | some q => .map (some q.b)
def allE (T : TypeId) (o : Option PR) : List Ent := match o with
  | none => []
  | some q => [poolE T q.N q.mn none, roM q.b q.es q.c]
theorem chk_facts {f : Fmt} {cf : Int} {xs : List Nt} (h : chkC f cf xs = 0) : chkF f = 0 ∧ f.Ok ∧ (-1 ≤ cf ∧ cf ≤ 1) ∧ xs.length ≤ 30 ∧ (∀ x ∈ xs, mkV x = true) ∧ mostS xs ≤ 600 := by
  unfold chkC at h
  cases hh : headB f cf xs.length
  · rw [hh, cond_false] at h
    cases ha : xs.all mkV
    · rw [ha] at h; cases h
    · rw [ha] at h
      have h2 : decide (600 < mostS xs) = false := by
        cases hm : decide (600 < mostS xs)
        · rfl
        · rw [hm] at h; cases h
      unfold headB at hh
      simp only [Bool.or_eq_false_iff, decide_eq_false_iff_not] at hh
      have h3 := chkF_ok hh.1.1
      have h4 : chkF f = 0 := by simpa using hh.1.1
      exact ⟨h4, h3, wi_not.1 hh.1.2, by have := hh.2; omega, List.all_eq_true.1 ha, by have := of_decide_eq_false h2; omega⟩
  · rw [hh] at h; cases h
theorem mostS_le {xs : List Nt} (h : ∀ x ∈ xs, mkV x = true) (j : Nat) : 0 ≤ mostS (xs.take j) ∧ mostS (xs.take j) ≤ mostS xs := by
  have nn : ∀ l : List Nt, (∀ x ∈ l, mkV x = true) → 0 ≤ mostS l := fun l => by
    induction l with
    | nil => exact fun _ => Int.le_refl _
    | cons x l ih =>
      intro h
      have h1 := ih fun y hy => h y (by simp [hy])
      have h2 := most_bd (h x (by simp))
      show 0 ≤ mostN x + mostS l
      omega
  have e : mostS xs = mostS (xs.take j) + mostS (xs.drop j) := by
    unfold mostS
    rw [← List.sum_append, ← List.map_append, List.take_append_drop]
  have h1 := nn (xs.take j) fun x hx => h x (List.mem_of_mem_take hx)
  have h2 := nn (xs.drop j) fun x hx => h x (List.mem_of_mem_drop hx)
  omega
theorem C_card_all (f : Fmt) (cf : Int) (xs : List Nt) (A : Option Addr) (n c : Nat) (w : World) (h : Rd w A 4 n (encN xs)) (hn : n ≤ 9223372036854775807) (hsm : chkC f cf xs = 0 → mostS xs ≤ 400) :
    CR Try.prog 33 [.agg (cardC f cf A n c).toArray] w (AllOk f cf xs) (fun o => .tuple #[allV o, .int .i64 (allB f cf xs), .int .i64 (chkC f cf xs)]) (allE 103) := by
  have hlen : xs.length = n := by have := h.len; rwa [encN_len] at this
  refine ⟨en Try.func33 Try.ntmps33 ((St.init w).share (e := .ro A 4 n (encN xs)) h rfl rfl rfl) (h := fun F => ?_)⟩
  refine sq (h := ?_)
  refine rg (h := ?_)
  refine bxA (h := fun b0 => ?_)
  refine WL.y (hy := asg) (h := ?_)
  refine WL.cut (by repeat (first | exact Cut.nil | apply Cut.hit | apply Cut.miss (by exact rfl))) ?_
  refine WL.y (hy := asg) (h := ?_)
  refine WL.y (hy := asg) (h := ?_)
  refine nl (h := ?_)
  refine q_seq (h := ?_)
  refine sq (h := ?_)
  refine sq (h := ?_)
  refine rg (h := ?_)
  refine WL.y (hy := (by first | exact ldA | exact ldEA)) (h := ?_)
  refine cl0 (hc := fun w hS => C_card_Check f cf xs A n c w (hS.get (by repeat (first | exact Rds.ro | exact Rds.own | apply Rds.there))) hn) (h := ?_)
  refine WL.y (hy := asg) (h := ?_)
  refine nl (h := ?_)
  refine q_seq (h := ?_)
  refine sq (h := ?_)
  refine rg (h := ?_)
  refine WL.y (hy := mv) (h := ?_)
  refine WL.y (hy := neq) (h := ?_)
  refine nl (h := ?_)
  refine q_seq (h := ?_)
  refine cd (by exact rfl) (fun h0 => ?_) (fun h0 => ?_)
  · skip
    have hcn : chkC f cf xs ≠ 0 := by simpa using h0
    have hB : allB f cf xs = 0 := by rw [allB, decide_eq_false hcn]; rfl
    refine sq (h := ?_)
    refine rg (h := ?_)
    refine WL.y (hy := mv) (h := ?_)
    refine WL.y (hy := asg) (h := ?_)
    refine WL.cut (by repeat (first | exact Cut.nil | apply Cut.hit | apply Cut.miss (by exact rfl))) ?_
    refine WL.y (hy := asg) (h := ?_)
    refine WL.y (hy := asg) (h := ?_)
    refine nl (h := ?_)
    refine q_seq (h := ?_)
    refine rtn (h := ?_)
    refine q_then_ret (h := ?_)
    refine q_ret (hR := ?_)
    rw [hB]
    exact fun w hS => ⟨none, .inl hcn, rfl, hS.sub (by repeat (first | exact SubL.nil | (apply SubL.cons; (repeat (first | exact At.here | apply At.there))) | exact SubL.refl _ | apply SubL.skip))⟩
  · skip
    have hcn : chkC f cf xs = 0 := by simpa using h0
    obtain ⟨hc0, hf, hcf, hl30, hmk, -⟩ := chk_facts hcn
    have hms := hsm hcn
    have hB : allB f cf xs = badC f cf xs := by rw [allB, decide_eq_true hcn]; rfl
    rw [hcn]
    refine skp (h := ?_)
    refine q_seq (h := ?_)
    refine sq (h := ?_)
    refine rg (h := ?_)
    refine WL.y (hy := (by first | exact ldA | exact ldEA)) (h := ?_)
    refine WL.y (hy := bd) (h := ?_)
    refine al (h := fun b1 => ?_)
    first | refine stA (h := ?_) | refine stEA (h := ?_)
    refine nl (h := ?_)
    refine q_seq (h := ?_)
    refine sq (h := ?_)
    refine WC.pool0 103 (fun _ => (0, 0)) ?_
    refine rg (h := ?_)
    refine WL.y (hy := (by first | exact ldA | exact ldEA)) (h := ?_)
    refine clT (hc := T_reader_begin f hf cf A n c (fun _ => (0, 0))) (h := fun q1 hq1 => ?_)
    refine WL.y (hy := asg) (h := ?_)
    refine WL.cut (by repeat (first | exact Cut.nil | apply Cut.hit | apply Cut.miss (by exact rfl))) ?_
    refine WL.toRoM (b := q1.b) (es := q1.es) (c := q1.c) (by repeat (first | exact At.here | apply At.there)) ?_
    refine nl (h := ?_)
    refine q_seq (h := ?_)
    refine sq (h := ?_)
    refine sq (h := ?_)
    refine rg (h := ?_)
    refine WL.y (hy := (by first | exact fa | exact faE)) (h := ?_)
    refine WL.y (hy := (by first | exact ld | exact ldE)) (h := ?_)
    refine WL.y (hy := lenS) (h := ?_)
    refine WL.y (hy := mv) (h := ?_)
    refine nl (h := ?_)
    refine q_seq (h := ?_)
    refine bk (h := ?_)
    refine lp (X := AZ) (I := fun z => z.k ≤ n ∧ StI f cf xs z.k z.q ∧ ∀ j, j ≤ z.k → crowdC f cf (xs.take j) ≠ []) (le := fun z => [(2, .map (some z.q.b)), (6, .pointer (some ⟨b1, 0, none⟩)), (19, .slice A n c), (20, .int .i64 n), (21, .int .i64 z.k)]) (Le := fun z => [roM z.q.b z.q.es z.q.c, poolE 103 z.q.N z.q.mn none, .blk b1 100 (cardC f cf A n c), .ro A 4 n (encN xs)]) (μ := fun z => n - z.k) ⟨q1, 0⟩ ⟨Nat.zero_le _, StI.start hq1, fun j hj => by rw [show j = 0 from Nat.le_zero.1 hj]; exact beg_ne hcf⟩ (by repeat (first | exact trivial | refine ⟨rfl, ?_⟩)) (by repeat (first | exact SubL.nil | (apply SubL.cons; (repeat (first | exact At.here | apply At.there))) | exact SubL.refl _ | apply SubL.skip)) (fun z hz => ?_)
    obtain ⟨hzk, hzs, hzn⟩ := hz
    refine sq (h := ?_)
    refine rg (h := ?_)
    refine WL.y (hy := lss) (h := ?_)
    refine nl (h := ?_)
    refine q_seq (h := ?_)
    refine sq (h := ?_)
    refine cd (by exact rfl) (fun h1 => ?_) (fun h1 => ?_)
    · skip
      have hkn : z.k < n := by simp only [decide_eq_true_eq] at h1; omega
      obtain ⟨x, hx⟩ : ∃ x, xs[z.k]? = some x := ⟨_, List.getElem?_eq_getElem (by omega)⟩
      have hxe := encN_at hx
      have hmx := hmk x (List.mem_of_getElem? hx)
      have hml := mostS_le hmk z.k
      refine skp (h := ?_)
      refine q_seq (h := ?_)
      refine sq (h := ?_)
      refine bk (h := ?_)
      refine sq (h := ?_)
      refine rg (h := ?_)
      refine WL.y (hy := mv) (h := ?_)
      refine WL.y (hy := ix (hb := by omega)) (h := ?_)
      refine WL.y (hy := ldEA (hk := hxe)) (h := ?_)
      refine al (h := fun b2 => ?_)
      refine WL.y (hy := asg) (h := ?_)
      first | refine stA (h := ?_) | refine stEA (h := ?_)
      refine nl (h := ?_)
      refine q_seq (h := ?_)
      refine sq (h := ?_)
      refine rg (h := ?_)
      refine WL.y (hy := (by first | exact ldA | exact ldEA)) (h := ?_)
      refine WL.y (hy := mv) (h := ?_)
      refine WL.y (hy := (by first | exact ldA | exact ldEA)) (h := ?_)
      refine clT (hc := T_read f hf hc0 cf A n c z.q.N z.q.ns z.q.mn x hmx _ (by omega) hzs.ok z.q.b z.q.es z.q.c hzs.cr) (h := fun q2 hq2 => ?_)
      have hs2 := hzs.read hx hq2
      refine WL.y (hy := asg) (h := ?_)
      refine WL.cut (by repeat (first | exact Cut.nil | apply Cut.hit | apply Cut.miss (by exact rfl))) ?_
      refine WL.toRoM (b := q2.b) (es := q2.es) (c := q2.c) (by repeat (first | exact At.here | apply At.there)) ?_
      refine nl (h := ?_)
      refine q_seq (h := ?_)
      refine sq (h := ?_)
      refine rg (h := ?_)
      refine WL.y (hy := mv) (h := ?_)
      refine WL.y (hy := lenR (b := q2.b) (es := q2.es) (c := q2.c)) (h := ?_)
      refine WL.y (hy := eql) (h := ?_)
      refine nl (h := ?_)
      refine q_seq (h := ?_)
      refine cd (by exact rfl) (fun h2 => ?_) (fun h2 => ?_)
      · skip
        have hem : q2.es.size = 0 := by have h9 := of_decide_eq_true h2; omega
        have hE : badC f cf xs = (z.k : Int) := bad_at (by omega) (hs2.none.1 hem) hzn
        refine sq (h := ?_)
        refine rg (h := ?_)
        refine WL.y (hy := mv) (h := ?_)
        refine WL.y (hy := asg) (h := ?_)
        refine WL.cut (by repeat (first | exact Cut.nil | apply Cut.hit | apply Cut.miss (by exact rfl))) ?_
        refine WL.y (hy := asg) (h := ?_)
        refine WL.y (hy := asg) (h := ?_)
        refine nl (h := ?_)
        refine q_seq (h := ?_)
        refine rtn (h := ?_)
        refine q_blk_ret (h := ?_)
        refine q_then_ret (h := ?_)
        refine q_then_ret (h := ?_)
        refine q_blk_ret (h := ?_)
        refine q_then_ret (h := ?_)
        refine q_ret (hR := ?_)
        rw [hB, hE]
        first
          | exact fun w hS => ⟨none, .inr (by rw [hE]; omega), rfl, hS.sub (by repeat (first | exact SubL.nil | (apply SubL.cons; (repeat (first | exact At.here | apply At.there))) | exact SubL.refl _ | apply SubL.skip))⟩
          | exact fun w hS => ⟨some z.q, ⟨hcn, hE, hzs⟩, rfl, hS.sub (L' := [poolE 103 z.q.N z.q.mn none, roM z.q.b z.q.es z.q.c]) (by repeat (first | exact SubL.nil | (apply SubL.cons; (repeat (first | exact At.here | apply At.there))) | exact SubL.refl _ | apply SubL.skip))⟩
      · skip
        have hem : q2.es.size ≠ 0 := by have h9 := of_decide_eq_false h2; omega
        have hne2 : crowdC f cf (xs.take (z.k + 1)) ≠ [] := fun e => hem (hs2.none.2 e)
        refine skp (h := ?_)
        refine q_blk_norm (h := ?_)
        refine q_seq (h := ?_)
        refine rg (h := ?_)
        refine WL.y (hy := addI) (h := ?_)
        refine WL.y (hy := mv) (h := ?_)
        refine nl (h := ?_)
        refine rn (x := z) ⟨q2, z.k + 1⟩ ⟨by dsimp only; omega, hs2, fun j hj => by
            by_cases e : j ≤ z.k
            · exact hzn j e
            · rw [show j = z.k + 1 by dsimp only at hj; omega]; exact hne2⟩ (by dsimp only; omega) (by repeat (first | exact trivial | refine ⟨rfl, ?_⟩)) (by repeat (first | exact SubL.nil | (apply SubL.cons; (repeat (first | exact At.here | apply At.there))) | exact SubL.refl _ | apply SubL.skip))
    · skip
      have hkn : z.k = xs.length := by simp only [decide_eq_false_iff_not] at h1; omega
      have hE : badC f cf xs = -1 := by
        have h9 := hzn z.k (Nat.le_refl _)
        rw [hkn, List.take_length] at h9
        exact (bad_none hcf).2 h9
      rw [hkn] at hzs
      refine et (h := ?_)
      refine q_then_exit (h := ?_)
      refine q_then_exit (h := ?_)
      refine q_blk_hit (h := ?_)
      refine q_seq (h := ?_)
      refine sq (h := ?_)
      refine rg (h := ?_)
      refine WL.y (hy := mv) (h := ?_)
      refine WL.y (hy := asg) (h := ?_)
      refine WL.cut (by repeat (first | exact Cut.nil | apply Cut.hit | apply Cut.miss (by exact rfl))) ?_
      refine WL.y (hy := asg) (h := ?_)
      refine WL.y (hy := asg) (h := ?_)
      refine nl (h := ?_)
      refine q_seq (h := ?_)
      refine rtn (h := ?_)
      refine q_ret (hR := ?_)
      rw [hB, hE]
      first
        | exact fun w hS => ⟨none, .inr (by rw [hE]; omega), rfl, hS.sub (by repeat (first | exact SubL.nil | (apply SubL.cons; (repeat (first | exact At.here | apply At.there))) | exact SubL.refl _ | apply SubL.skip))⟩
        | exact fun w hS => ⟨some z.q, ⟨hcn, hE, hzs⟩, rfl, hS.sub (L' := [poolE 103 z.q.N z.q.mn none, roM z.q.b z.q.es z.q.c]) (by repeat (first | exact SubL.nil | (apply SubL.cons; (repeat (first | exact At.here | apply At.there))) | exact SubL.refl _ | apply SubL.skip))⟩
end Go.Proofs.Ytncoimjgjpcipaa

namespace Go.Proofs.Ytncoimjgjpcipaa
open Go Go.RowKit

theorem sub_app : ∀ (L R : List Ent), SubL L (L ++ R)
  | [], _ => .nil
  | _ :: L, R => .cons .here (sub_app L R)
def posE (f : Fmt) (cf : Int) (xs : List Nt) : Int := bif decide (chkC f cf xs = 0) then (bif decide (0 ≤ badC f cf xs) then 3 else 0) else chkC f cf xs
theorem posE_some {f : Fmt} {cf : Int} {xs : List Nt} {q : PR} (h : AllOk f cf xs (some q)) : posE f cf xs = 0 := by
  obtain ⟨h1, h2, _⟩ := h
  rw [posE, h1, h2]; rfl
theorem posE_none {f : Fmt} {cf : Int} {xs : List Nt} (h : AllOk f cf xs none) : posE f cf xs ≠ 0 := by
  unfold posE
  by_cases h1 : chkC f cf xs = 0
  · rw [decide_eq_true h1, cond_true, decide_eq_true (h.resolve_left (fun e => e h1))]; decide
  · rw [decide_eq_false h1, cond_false]; exact h1
theorem C_card_First (f : Fmt) (cf : Int) (xs : List Nt) (A : Option Addr) (n c : Nat) (w : World) (h : Rd w A 4 n (encN xs)) (hn : n ≤ 9223372036854775807) (hsm : chkC f cf xs = 0 → mostS xs ≤ 400) :
    C0 Try.prog 12 [.agg (cardC f cf A n c).toArray] w (.tuple #[.int .i64 (allB f cf xs), .int .i64 (chkC f cf xs)]) := by
  refine ⟨en Try.func12 Try.ntmps12 ((St.init w).share (e := .ro A 4 n (encN xs)) h rfl rfl rfl) (h := fun F => ?_)⟩
  refine sq (h := ?_)
  refine rg (h := ?_)
  refine bxA (h := fun b0 => ?_)
  refine WL.y (hy := asg) (h := ?_)
  refine WL.y (hy := asg) (h := ?_)
  refine nl (h := ?_)
  refine q_seq (h := ?_)
  refine sq (h := ?_)
  refine rg (h := ?_)
  refine WL.y (hy := (by first | exact ldA | exact ldEA)) (h := ?_)
  refine cl (hfresh := fun o => by cases o <;> rfl) (hc := fun w hS => C_card_all f cf xs A n c w (hS.get (by repeat (first | exact Rds.ro | exact Rds.own | apply Rds.there))) hn hsm) (h := fun o ho => ?_)
  refine WL.y (hy := mv) (h := ?_)
  refine WL.y (hy := ex) (h := ?_)
  refine WL.y (hy := ex) (h := ?_)
  refine WL.y (hy := ex) (h := ?_)
  refine WL.y (hy := asg) (h := ?_)
  refine WL.y (hy := asg) (h := ?_)
  refine WL.y (hy := asg) (h := ?_)
  refine nl (h := ?_)
  refine q_seq (h := ?_)
  refine sq (h := ?_)
  refine rg (h := ?_)
  refine WL.y (hy := mv) (h := ?_)
  refine WL.y (hy := mv) (h := ?_)
  refine WL.y (hy := asg) (h := ?_)
  refine WL.y (hy := asg) (h := ?_)
  refine nl (h := ?_)
  refine q_seq (h := ?_)
  refine rtn (h := ?_)
  refine q_ret (hR := ?_)
  exact fun w hS => ⟨rfl, hS.sub .nil⟩
theorem C_card_possible (f : Fmt) (cf : Int) (xs : List Nt) (A : Option Addr) (n c : Nat) (w : World) (h : Rd w A 4 n (encN xs)) (hn : n ≤ 9223372036854775807) (hsm : chkC f cf xs = 0 → mostS xs ≤ 400) :
    CR Try.prog 34 [.agg (cardC f cf A n c).toArray] w (AllOk f cf xs) (fun o => .tuple #[allV o, .int .i64 (posE f cf xs)]) (allE 103) := by
  refine ⟨en Try.func34 Try.ntmps34 ((St.init w).share (e := .ro A 4 n (encN xs)) h rfl rfl rfl) (h := fun F => ?_)⟩
  refine sq (h := ?_)
  refine rg (h := ?_)
  refine bxA (h := fun b0 => ?_)
  refine WL.y (hy := asg) (h := ?_)
  refine WL.y (hy := asg) (h := ?_)
  refine nl (h := ?_)
  refine q_seq (h := ?_)
  refine sq (h := ?_)
  refine rg (h := ?_)
  refine WL.y (hy := (by first | exact ldA | exact ldEA)) (h := ?_)
  refine cl (hfresh := fun o => by cases o <;> rfl) (hc := fun w hS => C_card_all f cf xs A n c w (hS.get (by repeat (first | exact Rds.ro | exact Rds.own | apply Rds.there))) hn hsm) (h := fun o ho => ?_)
  refine WL.y (hy := mv) (h := ?_)
  refine WL.y (hy := ex) (h := ?_)
  refine WL.y (hy := ex) (h := ?_)
  refine WL.y (hy := ex) (h := ?_)
  refine WL.y (hy := asg) (h := ?_)
  refine WL.y (hy := asg) (h := ?_)
  refine WL.y (hy := asg) (h := ?_)
  refine nl (h := ?_)
  refine q_seq (h := ?_)
  refine sq (h := ?_)
  refine sq (h := ?_)
  refine rg (h := ?_)
  refine WL.y (hy := mv) (h := ?_)
  refine WL.y (hy := eql) (h := ?_)
  refine WL.y (hy := mv) (h := ?_)
  apply brAnd 3 15 18 (by exact rfl)
  · intro hb0
    refine un (h := ?_)
    refine WL.y (hy := mv) (h := ?_)
    refine un (h := ?_)
    refine WL.y (hy := geq) (h := ?_)
    refine WL.y (hy := (by first | exact pkT | exact pkF)) (h := ?_)
    exact mg (by repeat (first | exact trivial | refine ⟨rfl, ?_⟩ | refine ⟨by rw [hb0]; rfl, ?_⟩)) (by repeat (first | exact SubL.nil | (apply SubL.cons; (repeat (first | exact At.here | apply At.there))) | exact SubL.refl _ | apply SubL.skip))
  · intro hb0
    repeat (first | refine un (h := ?_) | refine sk (h := ?_) | refine WL.y (hy := pkF) (h := ?_) | refine WL.y (hy := pkT) (h := ?_))
    exact mg (by repeat (first | exact trivial | refine ⟨rfl, ?_⟩ | refine ⟨by rw [hb0]; rfl, ?_⟩)) (by repeat (first | exact SubL.nil | (apply SubL.cons; (repeat (first | exact At.here | apply At.there))) | exact SubL.refl _ | apply SubL.skip))
  refine nl (h := ?_)
  refine q_seq (h := ?_)
  refine cd (by exact rfl) (fun h1 => ?_) (fun h1 => ?_)
  · skip
    have hp : posE f cf xs = 3 := by
      have h' : (decide (chkC f cf xs = 0) && decide (0 ≤ allB f cf xs)) = true := h1
      rw [Bool.and_eq_true] at h'
      have h2 := h'.2
      rw [allB, h'.1, cond_true] at h2
      rw [posE, h'.1, h2]; rfl
    refine rg (h := ?_)
    refine WL.y (hy := asg) (h := ?_)
    refine nl (h := ?_)
    refine q_seq (h := ?_)
    refine sq (h := ?_)
    refine rg (h := ?_)
    refine WL.y (hy := mv) (h := ?_)
    refine WL.y (hy := mv) (h := ?_)
    refine WL.y (hy := asg) (h := ?_)
    refine WL.y (hy := asg) (h := ?_)
    refine nl (h := ?_)
    refine q_seq (h := ?_)
    refine rtn (h := ?_)
    refine q_ret (hR := ?_)
    rw [hp]
    exact fun w hS => ⟨o, ho, rfl, hS.sub (sub_app _ _)⟩
  · skip
    have hp : posE f cf xs = chkC f cf xs := by
      have h' : (decide (chkC f cf xs = 0) && decide (0 ≤ allB f cf xs)) = false := h1
      unfold posE
      cases hd : decide (chkC f cf xs = 0)
      · rfl
      · rw [hd, Bool.true_and, allB, hd, cond_true] at h'
        rw [h']; exact (of_decide_eq_true hd).symm
    refine skp (h := ?_)
    refine q_seq (h := ?_)
    refine sq (h := ?_)
    refine rg (h := ?_)
    refine WL.y (hy := mv) (h := ?_)
    refine WL.y (hy := mv) (h := ?_)
    refine WL.y (hy := asg) (h := ?_)
    refine WL.y (hy := asg) (h := ?_)
    refine nl (h := ?_)
    refine q_seq (h := ?_)
    refine rtn (h := ?_)
    refine q_ret (hR := ?_)
    rw [hp]
    exact fun w hS => ⟨o, ho, rfl, hS.sub (sub_app _ _)⟩
end Go.Proofs.Ytncoimjgjpcipaa

namespace Go.Proofs.Ytncoimjgjpcipaa
open Go Go.RowKit

theorem all_none {f : Fmt} {cf : Int} {xs : List Nt} {o : Option PR} (h : AllOk f cf xs o) (he : posE f cf xs ≠ 0) : o = none := by
  cases o with
  | none => rfl
  | some q => exact absurd (posE_some h) he
theorem all_some {f : Fmt} {cf : Int} {xs : List Nt} {o : Option PR} (h : AllOk f cf xs o) (he : posE f cf xs = 0) : ∃ q, o = some q ∧ StI f cf xs xs.length q ∧ q.ns ≠ [] ∧ chkC f cf xs = 0 := by
  cases o with
  | none => exact absurd he (posE_none h)
  | some q =>
    refine ⟨q, rfl, h.2.2, fun e => ?_, h.1⟩
    have h1 := h.2.2.none
    rw [h.2.2.cr.size, e, List.take_length] at h1
    exact (bad_none (chk_facts h.1).2.2.1).1 h.2.1 (h1.1 rfl)
theorem StI.keys {f : Fmt} {cf : Int} {xs : List Nt} {q : PR} (h : StI f cf xs xs.length q) {y : Nd} (hy : y ∈ q.ns) : y.s ∈ keyC (crowdC f cf xs) := by
  have h1 := h.eqC
  rw [List.take_length] at h1
  have : y.s ∈ keyC (toC q.mn q.ns) := by rw [toC_keys]; exact List.mem_map.2 ⟨y, hy, rfl⟩
  exact (h1.map _).subset this
structure ITZ where
  (dn ts : List Nd) (tk : List KV) (o : Option KV)
def cntC (f : Fmt) (cf : Int) (xs : List Nt) : Pr := spanC (crowdC f cf xs) (600, 0)
def cntV (f : Fmt) (cf : Int) (xs : List Nt) : Pr := bif decide (posE f cf xs = 0) then cntC f cf xs else (0, 0)
theorem span_snoc (mn : Nat → Pr) (dn : List Nd) (x : Nd) (v : Pr) : spanC (toC mn (dn ++ [x])) v = (min (spanC (toC mn dn) v).1 (mn x.b).1, max (spanC (toC mn dn) v).2 (mn x.b).2) := by
  rw [toC_snoc]
  unfold spanC
  rw [List.foldl_append]
  rfl
theorem C_card_Count (f : Fmt) (cf : Int) (xs : List Nt) (A : Option Addr) (n c : Nat) (w : World) (h : Rd w A 4 n (encN xs)) (hn : n ≤ 9223372036854775807) (hsm : chkC f cf xs = 0 → mostS xs ≤ 400) :
    C0 Try.prog 24 [.agg (cardC f cf A n c).toArray] w (.tuple #[pv (cntV f cf xs), .int .i64 (posE f cf xs)]) := by
  refine ⟨en Try.func24 Try.ntmps24 ((St.init w).share (e := .ro A 4 n (encN xs)) h rfl rfl rfl) (h := fun F => ?_)⟩
  refine sq (h := ?_)
  refine rg (h := ?_)
  refine bxA (h := fun b0 => ?_)
  refine al (h := fun b1 => ?_)
  refine WL.y (hy := asg) (h := ?_)
  refine WL.cut (by repeat (first | exact Cut.nil | apply Cut.hit | apply Cut.miss (by exact rfl))) ?_
  refine nl (h := ?_)
  refine q_seq (h := ?_)
  refine sq (h := ?_)
  refine rg (h := ?_)
  refine WL.y (hy := (by first | exact ldA | exact ldEA)) (h := ?_)
  refine cl (hfresh := fun o => by cases o <;> rfl) (hc := fun w hS => C_card_possible f cf xs A n c w (hS.get (by repeat (first | exact Rds.ro | exact Rds.own | apply Rds.there))) hn hsm) (h := fun o ho => ?_)
  refine WL.y (hy := mv) (h := ?_)
  refine WL.y (hy := ex) (h := ?_)
  refine WL.y (hy := ex) (h := ?_)
  refine WL.y (hy := asg) (h := ?_)
  refine WL.y (hy := asg) (h := ?_)
  refine nl (h := ?_)
  refine q_seq (h := ?_)
  refine sq (h := ?_)
  refine sq (h := ?_)
  refine rg (h := ?_)
  refine WL.y (hy := mv) (h := ?_)
  refine WL.y (hy := neq) (h := ?_)
  refine nl (h := ?_)
  refine q_seq (h := ?_)
  refine cd (by exact rfl) (fun h0 => ?_) (fun h0 => ?_)
  · skip
    have he : posE f cf xs ≠ 0 := by simpa using h0
    obtain rfl := all_none ho he
    have hv : cntV f cf xs = (0, 0) := by rw [cntV, decide_eq_false he]; rfl
    refine sq (h := ?_)
    refine rg (h := ?_)
    refine WL.y (hy := bd) (h := ?_)
    refine WL.y (hy := mv) (h := ?_)
    first | refine stA (h := ?_) | refine stEA (h := ?_)
    refine WL.y (hy := asg) (h := ?_)
    refine WL.cut (by repeat (first | exact Cut.nil | apply Cut.hit | apply Cut.miss (by exact rfl))) ?_
    refine nl (h := ?_)
    refine q_seq (h := ?_)
    refine rtn (h := ?_)
    refine q_then_ret (h := ?_)
    refine q_ret (hR := ?_)
    first
      | (rw [hv]; exact fun w hS => ⟨rfl, hS.sub .nil⟩)
      | (rw [hv, ← hfin, he]; exact fun w hS => ⟨rfl, hS.sub .nil⟩)
  · skip
    have he : posE f cf xs = 0 := by simpa using h0
    obtain ⟨q, rfl, hq, hqn, hck⟩ := all_some ho he
    have hv : cntV f cf xs = cntC f cf xs := by rw [cntV, decide_eq_true he]; rfl
    refine WC.subL (L' := [poolE 103 q.N q.mn none, roM q.b q.es q.c, .blk b1 63 [.int .i64 0, .int .i64 0]]) (by repeat (first | exact SubL.nil | (apply SubL.cons; (repeat (first | exact At.here | apply At.there))) | exact SubL.refl _ | apply SubL.skip)) ?_
    refine skp (h := ?_)
    refine q_seq (h := ?_)
    refine sq (h := ?_)
    refine rg (h := ?_)
    refine WL.y (hy := bd) (h := ?_)
    refine al (h := fun b2 => ?_)
    first | refine stA (h := ?_) | refine stEA (h := ?_)
    refine nl (h := ?_)
    refine q_seq (h := ?_)
    refine sq (h := ?_)
    refine sq (h := ?_)
    refine rg (h := ?_)
    refine WL.y (hy := mv) (h := ?_)
    refine rngM (b := q.b) (es := q.es) (c := q.c) (h := fun r1 => ?_)
    rw [cr_kv hq.cr]
    refine nl (h := ?_)
    refine q_seq (h := ?_)
    refine bk (h := ?_)
    refine lp (X := ITZ) (I := fun z => (z.dn ++ z.ts).Perm q.ns ∧ z.tk.Perm (z.ts.map ndKV)) (le := fun z => [(2, .pointer (some ⟨b1, 0, none⟩)), (6, .pointer (some ⟨b2, 0, none⟩)), (20, .pointer (some ⟨r1, 0, none⟩))]) (Le := fun z => [itE r1 q.b q.es q.c z.tk z.o, .blk b2 63 [.int .i64 (spanC (toC q.mn z.dn) (600, 0)).1, .int .i64 (spanC (toC q.mn z.dn) (600, 0)).2], poolE 103 q.N q.mn none, roM q.b q.es q.c, .blk b1 63 [.int .i64 0, .int .i64 0]]) (μ := fun z => z.ts.length) ⟨[], q.ns, q.ns.map ndKV, none⟩ ⟨.refl _, .refl _⟩ (by repeat (first | exact trivial | refine ⟨rfl, ?_⟩)) (by repeat (first | exact SubL.nil | (apply SubL.cons; (repeat (first | exact At.here | apply At.there))) | exact SubL.refl _ | apply SubL.skip)) (fun z hz => ?_)
    obtain ⟨hzd, hzt⟩ := hz
    refine sq (h := ?_)
    refine rg (h := ?_)
    refine nxtM (b := q.b) (es := q.es) (c := q.c) (hs := hq.cr.s) (h := fun o2 tk2 ho2 => ?_)
    refine WL.y (hy := exN) (h := ?_)
    refine nl (h := ?_)
    refine q_seq (h := ?_)
    refine sq (h := ?_)
    refine cd (by exact rfl) (fun h1 => ?_) (fun h1 => ?_)
    · skip
      obtain ⟨kv, rfl⟩ := Option.isSome_iff_exists.1 h1
      rcases todo_nd hzt ho2 with ⟨e, _⟩ | ⟨x, ts', e, hts, htk⟩
      · cases e
      obtain rfl := Option.some.inj e
      have hxn : x ∈ q.ns := hzd.subset (List.mem_append.2 (.inr (hts.symm.subset List.mem_cons_self)))
      have hsp := span_snoc q.mn z.dn x (600, 0)
      refine skp (h := ?_)
      refine q_seq (h := ?_)
      refine bk (h := ?_)
      refine sq (h := ?_)
      refine rg (h := ?_)
      refine WL.y (hy := entM (b := q.b) (es := q.es) (c := q.c) (hs := hq.cr.s)) (h := ?_)
      refine WL.y (hy := ex) (h := ?_)
      refine WL.y (hy := asg) (h := ?_)
      refine nl (h := ?_)
      refine q_seq (h := ?_)
      refine rgD (by kernel_rfl) [(17, .blk b2 63 [.int .i64 (spanC (toC q.mn z.dn) (600, 0)).1, .int .i64 (spanC (toC q.mn z.dn) (600, 0)).2]), (1000000, poolE 103 q.N q.mn none)] (by repeat (first | exact HS.nil | (apply HS.keep; (repeat (first | exact At.here | apply At.there))) | (apply HS.ro; (repeat (first | exact Rds.ro | exact Rds.own | apply Rds.there))))) (h := ?_)
      refine tk 0 (hy := (by first | exact fa | exact faE)) (h := ?_)
      refine tk 1 (hy := (by first | exact ld | exact ldE)) (h := ?_)
      refine tk 2 (hy := mv) (h := ?_)
      refine tk 3 (hy := nck) (h := ?_)
      refine tk 4 (hy := (by first | exact fa | exact faE)) (h := ?_)
      refine tk 5 (hy := (by first | exact fa | exact faE)) (h := ?_)
      refine tk 6 (hy := ldQ (hy := hq.cr.sub x hxn)) (h := ?_)
      refine tk 7 (hy := minI) (h := ?_)
      refine tk 8 (hy := (by first | exact fa | exact faE)) (h := ?_)
      refine tk 9 (hy := (by first | exact ld | exact ldE)) (h := ?_)
      refine tk 10 (hy := mv) (h := ?_)
      refine tk 11 (hy := nck) (h := ?_)
      refine tk 12 (hy := (by first | exact fa | exact faE)) (h := ?_)
      refine tk 13 (hy := (by first | exact fa | exact faE)) (h := ?_)
      refine tk 14 (hy := ldQ (hy := hq.cr.sub x hxn)) (h := ?_)
      refine tk 15 (hy := maxI) (h := ?_)
      refine tk 16 (hy := bd) (h := ?_)
      refine one 17 (h := ?_)
      first | refine stA (h := ?_) | refine stEA (h := ?_)
      refine nx (h := ?_)
      refine dn (h := ?_)
      refine q_blk_norm (h := ?_)
      refine rn (x := z) ⟨z.dn ++ [x], ts', tk2, some (ndKV x)⟩ ⟨by rw [List.append_assoc]; exact ((List.Perm.append_left z.dn hts.symm)).trans hzd, htk⟩ (by have := hts.length_eq; rw [List.length_cons] at this; dsimp only; omega) (by repeat (first | exact trivial | refine ⟨rfl, ?_⟩)) (by dsimp only; rw [hsp]; exact (by repeat (first | exact SubL.nil | (apply SubL.cons; (repeat (first | exact At.here | apply At.there))) | exact SubL.refl _ | apply SubL.skip)))
    · skip
      have ho3 : o2 = none := by simpa using h1
      have hts : z.ts = [] := by
        rcases todo_nd hzt ho2 with ⟨_, h9, _⟩ | ⟨x, ts', e, _⟩
        · exact h9
        · rw [ho3] at e; cases e
      have hfin : spanC (toC q.mn z.dn) (600, 0) = cntC f cf xs := by
        rw [hts, List.append_nil] at hzd
        have h9 := hq.eqC
        rw [List.take_length] at h9
        exact span_perm ((hzd.map (ndE q.mn)).trans h9) _
      refine et (h := ?_)
      refine q_then_exit (h := ?_)
      refine q_then_exit (h := ?_)
      refine q_blk_hit (h := ?_)
      refine q_seq (h := ?_)
      refine sq (h := ?_)
      refine rg (h := ?_)
      refine WL.y (hy := (by first | exact ldA | exact ldEA)) (h := ?_)
      first | refine stA (h := ?_) | refine stEA (h := ?_)
      refine WL.y (hy := asg) (h := ?_)
      refine WL.cut (by repeat (first | exact Cut.nil | apply Cut.hit | apply Cut.miss (by exact rfl))) ?_
      refine nl (h := ?_)
      refine q_seq (h := ?_)
      refine rtn (h := ?_)
      refine q_ret (hR := ?_)
      first
        | (rw [hv]; exact fun w hS => ⟨rfl, hS.sub .nil⟩)
        | (rw [hv, ← hfin, he]; exact fun w hS => ⟨rfl, hS.sub .nil⟩)
end Go.Proofs.Ytncoimjgjpcipaa

namespace Go.Proofs.Ytncoimjgjpcipaa
open Go Go.RowKit

def sureB (f : Fmt) (cf : Int) (xs : List Nt) (x : Nt) : Bool := (keyC (crowdC f cf xs)).all (holdS f x)
def sureE (f : Fmt) (cf : Int) (xs : List Nt) (x : Nt) : Int := bif decide (chkC f cf xs = 0) then (bif decide (x.kind < 3) || !mkV x then 1 else posE f cf xs) else chkC f cf xs
def sureV (f : Fmt) (cf : Int) (xs : List Nt) (x : Nt) : Bool := decide (sureE f cf xs x = 0) && sureB f cf xs x
theorem C_card_Sure (f : Fmt) (cf : Int) (xs : List Nt) (x : Nt) (A : Option Addr) (n c : Nat) (w : World) (h : Rd w A 4 n (encN xs)) (hn : n ≤ 9223372036854775807) (hsm : chkC f cf xs = 0 → mostS xs ≤ 400) :
    C0 Try.prog 17 [.agg (cardC f cf A n c).toArray, x.val] w (.tuple #[.bool (sureV f cf xs x), .int .i64 (sureE f cf xs x)]) := by
  refine ⟨en Try.func17 Try.ntmps17 ((St.init w).share (e := .ro A 4 n (encN xs)) h rfl rfl rfl) (h := fun F => ?_)⟩
  refine sq (h := ?_)
  refine rg (h := ?_)
  refine bxA (h := fun b0 => ?_)
  refine bxA (h := fun b1 => ?_)
  refine WL.y (hy := asg) (h := ?_)
  refine WL.cut (by repeat (first | exact Cut.nil | apply Cut.hit | apply Cut.miss (by exact rfl))) ?_
  refine WL.y (hy := asg) (h := ?_)
  refine WL.cut (by repeat (first | exact Cut.nil | apply Cut.hit | apply Cut.miss (by exact rfl))) ?_
  refine nl (h := ?_)
  refine q_seq (h := ?_)
  refine sq (h := ?_)
  refine sq (h := ?_)
  refine rg (h := ?_)
  refine WL.y (hy := (by first | exact ldA | exact ldEA)) (h := ?_)
  refine cl0 (hc := fun w hS => C_card_Check f cf xs A n c w (hS.get (by repeat (first | exact Rds.ro | exact Rds.own | apply Rds.there))) hn) (h := ?_)
  refine WL.y (hy := asg) (h := ?_)
  refine nl (h := ?_)
  refine q_seq (h := ?_)
  refine sq (h := ?_)
  refine rg (h := ?_)
  refine WL.y (hy := mv) (h := ?_)
  refine WL.y (hy := neq) (h := ?_)
  refine nl (h := ?_)
  refine q_seq (h := ?_)
  refine cd (by exact rfl) (fun h0 => ?_) (fun h0 => ?_)
  · skip
    have hcn : chkC f cf xs ≠ 0 := by simpa using h0
    have hE : sureE f cf xs x = chkC f cf xs := by rw [sureE, decide_eq_false hcn]; rfl
    have hV : sureV f cf xs x = false := by rw [sureV, hE, decide_eq_false hcn]; rfl
    refine sq (h := ?_)
    refine rg (h := ?_)
    refine WL.y (hy := mv) (h := ?_)
    refine WL.y (hy := asg) (h := ?_)
    refine WL.cut (by repeat (first | exact Cut.nil | apply Cut.hit | apply Cut.miss (by exact rfl))) ?_
    refine WL.y (hy := asg) (h := ?_)
    refine WL.cut (by repeat (first | exact Cut.nil | apply Cut.hit | apply Cut.miss (by exact rfl))) ?_
    refine nl (h := ?_)
    refine q_seq (h := ?_)
    refine rtn (h := ?_)
    refine q_then_ret (h := ?_)
    refine q_ret (hR := ?_)
    first
      | (rw [hV, hE]; exact fun w hS => ⟨rfl, hS.sub .nil⟩)
      | (rw [hV, hE, he]; exact fun w hS => ⟨rfl, hS.sub .nil⟩)
  · skip
    have hcn : chkC f cf xs = 0 := by simpa using h0
    refine skp (h := ?_)
    refine q_seq (h := ?_)
    refine sq (h := ?_)
    refine sq (h := ?_)
    refine rg (h := ?_)
    refine WL.y (hy := (by first | exact fa | exact faE)) (h := ?_)
    refine WL.y (hy := (by first | exact ld | exact ldE)) (h := ?_)
    refine WL.y (hy := lss) (h := ?_)
    refine WL.y (hy := mv) (h := ?_)
    apply brOr 4 19 23 (by exact rfl)
    · intro hb1
      refine un (h := ?_)
      refine WL.y (hy := (by first | exact ldA | exact ldEA)) (h := ?_)
      refine un (h := ?_)
      refine cl0 (hc := fun w hS => C_card_isMark _ w) (h := ?_)
      refine un (h := ?_)
      refine WL.y (hy := notB) (h := ?_)
      refine WL.y (hy := (by first | exact pkT | exact pkF)) (h := ?_)
      exact mg (by repeat (first | exact trivial | refine ⟨rfl, ?_⟩ | refine ⟨by rw [hb1]; rfl, ?_⟩)) (by repeat (first | exact SubL.nil | (apply SubL.cons; (repeat (first | exact At.here | apply At.there))) | exact SubL.refl _ | apply SubL.skip))
    · intro hb1
      repeat (first | refine un (h := ?_) | refine sk (h := ?_) | refine WL.y (hy := pkF) (h := ?_) | refine WL.y (hy := pkT) (h := ?_))
      exact mg (by repeat (first | exact trivial | refine ⟨rfl, ?_⟩ | refine ⟨by rw [hb1]; rfl, ?_⟩)) (by repeat (first | exact SubL.nil | (apply SubL.cons; (repeat (first | exact At.here | apply At.there))) | exact SubL.refl _ | apply SubL.skip))
    refine nl (h := ?_)
    refine q_seq (h := ?_)
    refine cd (by exact rfl) (fun h2 => ?_) (fun h2 => ?_)
    · skip
      have hE : sureE f cf xs x = 1 := by
        have h' : (decide (x.kind < 3) || !mkV x) = true := h2
        rw [sureE, decide_eq_true hcn, h']; rfl
      have hV : sureV f cf xs x = false := by rw [sureV, hE]; rfl
      refine sq (h := ?_)
      refine rg (h := ?_)
      refine WL.y (hy := asg) (h := ?_)
      refine WL.cut (by repeat (first | exact Cut.nil | apply Cut.hit | apply Cut.miss (by exact rfl))) ?_
      refine WL.y (hy := asg) (h := ?_)
      refine WL.cut (by repeat (first | exact Cut.nil | apply Cut.hit | apply Cut.miss (by exact rfl))) ?_
      refine nl (h := ?_)
      refine q_seq (h := ?_)
      refine rtn (h := ?_)
      refine q_then_ret (h := ?_)
      refine q_ret (hR := ?_)
      first
        | (rw [hV, hE]; exact fun w hS => ⟨rfl, hS.sub .nil⟩)
        | (rw [hV, hE, he]; exact fun w hS => ⟨rfl, hS.sub .nil⟩)
    · skip
      have hE : sureE f cf xs x = posE f cf xs := by
        have h' : (decide (x.kind < 3) || !mkV x) = false := h2
        rw [sureE, decide_eq_true hcn, h']; rfl
      refine skp (h := ?_)
      refine q_seq (h := ?_)
      refine sq (h := ?_)
      refine rg (h := ?_)
      refine WL.y (hy := (by first | exact ldA | exact ldEA)) (h := ?_)
      refine cl (hfresh := fun o => by cases o <;> rfl) (hc := fun w hS => C_card_possible f cf xs A n c w (hS.get (by repeat (first | exact Rds.ro | exact Rds.own | apply Rds.there))) hn hsm) (h := fun o ho => ?_)
      refine WL.y (hy := mv) (h := ?_)
      refine WL.y (hy := ex) (h := ?_)
      refine WL.y (hy := ex) (h := ?_)
      refine WL.y (hy := asg) (h := ?_)
      refine WL.y (hy := asg) (h := ?_)
      refine nl (h := ?_)
      refine q_seq (h := ?_)
      refine sq (h := ?_)
      refine sq (h := ?_)
      refine rg (h := ?_)
      refine WL.y (hy := mv) (h := ?_)
      refine WL.y (hy := neq) (h := ?_)
      refine nl (h := ?_)
      refine q_seq (h := ?_)
      refine cd (by exact rfl) (fun h3 => ?_) (fun h3 => ?_)
      · skip
        have he : posE f cf xs ≠ 0 := by simpa using h3
        obtain rfl := all_none ho he
        have hV : sureV f cf xs x = false := by rw [sureV, hE, decide_eq_false he]; rfl
        refine sq (h := ?_)
        refine rg (h := ?_)
        refine WL.y (hy := mv) (h := ?_)
        refine WL.y (hy := asg) (h := ?_)
        refine WL.cut (by repeat (first | exact Cut.nil | apply Cut.hit | apply Cut.miss (by exact rfl))) ?_
        refine WL.y (hy := asg) (h := ?_)
        refine WL.cut (by repeat (first | exact Cut.nil | apply Cut.hit | apply Cut.miss (by exact rfl))) ?_
        refine nl (h := ?_)
        refine q_seq (h := ?_)
        refine rtn (h := ?_)
        refine q_then_ret (h := ?_)
        refine q_ret (hR := ?_)
        first
          | (rw [hV, hE]; exact fun w hS => ⟨rfl, hS.sub .nil⟩)
          | (rw [hV, hE, he]; exact fun w hS => ⟨rfl, hS.sub .nil⟩)
      · skip
        have he : posE f cf xs = 0 := by simpa using h3
        obtain ⟨q, rfl, hq, hqn, hck⟩ := all_some ho he
        obtain ⟨hc0, hf, _, hl30, _, _⟩ := chk_facts hck
        have hms := hsm hck
        have hqok := hq.ok
        rw [List.take_length] at hqok
        refine WC.subL (L' := [poolE 103 q.N q.mn none, roM q.b q.es q.c, .blk b0 26 (cardC f cf A n c), .blk b1 40 x.cells]) (by repeat (first | exact SubL.nil | (apply SubL.cons; (repeat (first | exact At.here | apply At.there))) | exact SubL.refl _ | apply SubL.skip)) ?_
        refine skp (h := ?_)
        refine q_seq (h := ?_)
        refine sq (h := ?_)
        refine sq (h := ?_)
        refine rg (h := ?_)
        refine WL.y (hy := mv) (h := ?_)
        refine rngM (b := q.b) (es := q.es) (c := q.c) (h := fun r1 => ?_)
        rw [cr_kv hq.cr]
        refine nl (h := ?_)
        refine q_seq (h := ?_)
        refine bk (h := ?_)
        refine lp (X := ITZ) (I := fun z => (z.dn ++ z.ts).Perm q.ns ∧ z.tk.Perm (z.ts.map ndKV) ∧ ∀ y ∈ z.dn, holdS f x y.s = true) (le := fun z => [(2, .pointer (some ⟨b0, 0, none⟩)), (3, .pointer (some ⟨b1, 0, none⟩)), (33, .pointer (some ⟨r1, 0, none⟩))]) (Le := fun z => [itE r1 q.b q.es q.c z.tk z.o, poolE 103 q.N q.mn none, roM q.b q.es q.c, .blk b0 26 (cardC f cf A n c), .blk b1 40 x.cells]) (μ := fun z => z.ts.length) ⟨[], q.ns, q.ns.map ndKV, none⟩ ⟨.refl _, .refl _, fun y hy => (by cases hy)⟩ (by repeat (first | exact trivial | refine ⟨rfl, ?_⟩)) (by repeat (first | exact SubL.nil | (apply SubL.cons; (repeat (first | exact At.here | apply At.there))) | exact SubL.refl _ | apply SubL.skip)) (fun z hz => ?_)
        obtain ⟨hzd, hzt, hza⟩ := hz
        refine sq (h := ?_)
        refine rg (h := ?_)
        refine nxtM (b := q.b) (es := q.es) (c := q.c) (hs := hq.cr.s) (h := fun o2 tk2 ho2 => ?_)
        refine WL.y (hy := exN) (h := ?_)
        refine nl (h := ?_)
        refine q_seq (h := ?_)
        refine sq (h := ?_)
        refine cd (by exact rfl) (fun h4 => ?_) (fun h4 => ?_)
        · skip
          obtain ⟨kv, rfl⟩ := Option.isSome_iff_exists.1 h4
          rcases todo_nd hzt ho2 with ⟨e, _⟩ | ⟨y, ts', e, hts, htk⟩
          · cases e
          obtain rfl := Option.some.inj e
          have hyn : y ∈ q.ns := hzd.subset (List.mem_append.2 (.inr (hts.symm.subset List.mem_cons_self)))
          refine skp (h := ?_)
          refine q_seq (h := ?_)
          refine bk (h := ?_)
          refine sq (h := ?_)
          refine rg (h := ?_)
          refine WL.y (hy := entM (b := q.b) (es := q.es) (c := q.c) (hs := hq.cr.s)) (h := ?_)
          refine WL.y (hy := ex) (h := ?_)
          refine WL.y (hy := asg) (h := ?_)
          refine nl (h := ?_)
          refine q_seq (h := ?_)
          refine sq (h := ?_)
          refine rg (h := ?_)
          refine WL.y (hy := (by first | exact ldA | exact ldEA)) (h := ?_)
          refine WL.y (hy := bd) (h := ?_)
          refine WL.y (hy := (by first | exact ldA | exact ldEA)) (h := ?_)
          refine WL.y (hy := mv) (h := ?_)
          refine clT (hc := T_reader_holds f hf hc0 cf A n c q.N q.mn _ (by omega) hqok y (hq.cr.sub y hyn) x) (h := fun _ _ => ?_)
          refine WL.y (hy := notB) (h := ?_)
          refine nl (h := ?_)
          refine q_seq (h := ?_)
          refine cd (by exact rfl) (fun h5 => ?_) (fun h5 => ?_)
          · skip
            have hV : sureV f cf xs x = false := by
              have h8 : holdS f x y.s = false := by simpa using h5
              unfold sureV sureB
              rw [Bool.and_eq_false_iff]
              right
              cases h7 : (keyC (crowdC f cf xs)).all (holdS f x)
              · rfl
              · have := List.all_eq_true.1 h7 y.s (hq.keys hyn)
                rw [h8] at this; cases this
            refine sq (h := ?_)
            refine rg (h := ?_)
            refine WL.y (hy := asg) (h := ?_)
            refine WL.cut (by repeat (first | exact Cut.nil | apply Cut.hit | apply Cut.miss (by exact rfl))) ?_
            refine WL.y (hy := asg) (h := ?_)
            refine WL.cut (by repeat (first | exact Cut.nil | apply Cut.hit | apply Cut.miss (by exact rfl))) ?_
            refine nl (h := ?_)
            refine q_seq (h := ?_)
            refine rtn (h := ?_)
            refine q_blk_ret (h := ?_)
            refine q_then_ret (h := ?_)
            refine q_blk_ret (h := ?_)
            refine q_then_ret (h := ?_)
            refine q_ret (hR := ?_)
            first
              | (rw [hV, hE]; exact fun w hS => ⟨rfl, hS.sub .nil⟩)
              | (rw [hV, hE, he]; exact fun w hS => ⟨rfl, hS.sub .nil⟩)
          · skip
            have hHy : holdS f x y.s = true := by simpa using h5
            refine skp (h := ?_)
            refine q_blk_norm (h := ?_)
            refine rn (x := z) ⟨z.dn ++ [y], ts', tk2, some (ndKV y)⟩ ⟨by rw [List.append_assoc]; exact ((List.Perm.append_left z.dn hts.symm)).trans hzd, htk, fun v hv => by
                rcases List.mem_append.1 hv with h9 | h9
                · exact hza v h9
                · rw [List.mem_singleton.1 h9]; exact hHy⟩ (by have := hts.length_eq; rw [List.length_cons] at this; dsimp only; omega) (by repeat (first | exact trivial | refine ⟨rfl, ?_⟩)) (by repeat (first | exact SubL.nil | (apply SubL.cons; (repeat (first | exact At.here | apply At.there))) | exact SubL.refl _ | apply SubL.skip))
        · skip
          have ho3 : o2 = none := by simpa using h4
          have hts : z.ts = [] := by
            rcases todo_nd hzt ho2 with ⟨_, h9, _⟩ | ⟨y, ts', e, _⟩
            · exact h9
            · rw [ho3] at e; cases e
          have hV : sureV f cf xs x = true := by
            rw [hts, List.append_nil] at hzd
            have h9 := hq.eqC
            rw [List.take_length] at h9
            rw [sureV, hE, he]
            show sureB f cf xs x = true
            refine List.all_eq_true.2 fun s hs => ?_
            have h8 : s ∈ keyC (toC q.mn q.ns) := (h9.map _).symm.subset hs
            rw [toC_keys] at h8
            obtain ⟨y, hy, rfl⟩ := List.mem_map.1 h8
            exact hza y (hzd.symm.subset hy)
          refine et (h := ?_)
          refine q_then_exit (h := ?_)
          refine q_then_exit (h := ?_)
          refine q_blk_hit (h := ?_)
          refine q_seq (h := ?_)
          refine sq (h := ?_)
          refine rg (h := ?_)
          refine WL.y (hy := asg) (h := ?_)
          refine WL.cut (by repeat (first | exact Cut.nil | apply Cut.hit | apply Cut.miss (by exact rfl))) ?_
          refine WL.y (hy := asg) (h := ?_)
          refine WL.cut (by repeat (first | exact Cut.nil | apply Cut.hit | apply Cut.miss (by exact rfl))) ?_
          refine nl (h := ?_)
          refine q_seq (h := ?_)
          refine rtn (h := ?_)
          refine q_ret (hR := ?_)
          first
            | (rw [hV, hE]; exact fun w hS => ⟨rfl, hS.sub .nil⟩)
            | (rw [hV, hE, he]; exact fun w hS => ⟨rfl, hS.sub .nil⟩)
end Go.Proofs.Ytncoimjgjpcipaa

namespace Go.Proofs.Ytncoimjgjpcipaa
open Go Go.RowKit

def orC : List Int → Int
  | [] => 0
  | x :: xs => bif !decide (x = 0) then x else orC xs
theorem C_cmpOrC (xs : List Int) (A : Option Addr) (n c : Nat) (w : World) (h : Rd w A 1 n (encI xs)) (hn : n ≤ 9223372036854775807) : C0 Try.prog 37 [.slice A n c] w (.int .i64 (orC xs)) := by
  have hlen : xs.length = n := by have := h.len; rwa [encI_len] at this
  refine ⟨en Try.func37 Try.ntmps37 ((St.init w).share (e := .ro A 1 n (encI xs)) h rfl rfl rfl) (h := fun F => ?_)⟩
  refine sq (h := ?_)
  refine rg (h := ?_)
  refine WL.y (hy := asg) (h := ?_)
  refine nl (h := ?_)
  refine q_seq (h := ?_)
  refine sq (h := ?_)
  refine rg (h := ?_)
  refine WL.y (hy := asg) (h := ?_)
  refine nl (h := ?_)
  refine q_seq (h := ?_)
  refine sq (h := ?_)
  refine sq (h := ?_)
  refine rg (h := ?_)
  refine WL.y (hy := mv) (h := ?_)
  refine WL.y (hy := lenS) (h := ?_)
  refine WL.y (hy := mv) (h := ?_)
  refine nl (h := ?_)
  refine q_seq (h := ?_)
  refine bk (h := ?_)
  refine lp (X := Nat) (I := fun k => k ≤ n ∧ orC (xs.drop k) = orC xs) (le := fun k => [(3, .int .i64 0), (6, .slice A n c), (7, .int .i64 n), (8, .int .i64 k)]) (Le := fun _ => [.ro A 1 n (encI xs)]) (μ := fun k => n - k) 0 ⟨Nat.zero_le _, rfl⟩ (by repeat (first | exact trivial | refine ⟨rfl, ?_⟩)) (by repeat (first | exact SubL.nil | (apply SubL.cons; (repeat (first | exact At.here | apply At.there))) | exact SubL.refl _ | apply SubL.skip)) (fun k hk => ?_)
  obtain ⟨hk, hko⟩ := hk
  refine sq (h := ?_)
  refine rg (h := ?_)
  refine WL.y (hy := lss) (h := ?_)
  refine nl (h := ?_)
  refine q_seq (h := ?_)
  refine sq (h := ?_)
  refine cd (by exact rfl) (fun h0 => ?_) (fun h0 => ?_)
  · skip
    have hkn : k < n := by simp only [decide_eq_true_eq] at h0; omega
    obtain ⟨x, hx⟩ : ∃ x, xs[k]? = some x := ⟨_, List.getElem?_eq_getElem (by omega)⟩
    have hxe := encI_at hx
    have hdr : xs.drop k = x :: xs.drop (k + 1) := by
      rw [List.drop_eq_getElem_cons (by omega)]
      congr 1
      rw [List.getElem?_eq_getElem (by omega)] at hx
      injection hx
    refine skp (h := ?_)
    refine q_seq (h := ?_)
    refine sq (h := ?_)
    refine bk (h := ?_)
    refine sq (h := ?_)
    refine rg (h := ?_)
    refine WL.y (hy := ix (A := A) (m := n)) (h := ?_)
    refine WL.y (hy := ldE (A := A) (hk := hxe)) (h := ?_)
    refine WL.y (hy := asg) (h := ?_)
    refine nl (h := ?_)
    refine q_seq (h := ?_)
    refine sq (h := ?_)
    refine rg (h := ?_)
    refine WL.y (hy := mv) (h := ?_)
    refine WL.y (hy := mv) (h := ?_)
    refine WL.y (hy := neq) (h := ?_)
    refine nl (h := ?_)
    refine q_seq (h := ?_)
    refine cd (by exact rfl) (fun h1 => ?_) (fun h1 => ?_)
    · skip
      have hE : orC xs = x := by rw [← hko, hdr, orC, h1]; rfl
      refine sq (h := ?_)
      refine rg (h := ?_)
      refine WL.y (hy := mv) (h := ?_)
      refine WL.y (hy := asg) (h := ?_)
      refine nl (h := ?_)
      refine q_seq (h := ?_)
      refine rtn (h := ?_)
      refine q_blk_ret (h := ?_)
      refine q_then_ret (h := ?_)
      refine q_then_ret (h := ?_)
      refine q_blk_ret (h := ?_)
      refine q_then_ret (h := ?_)
      refine q_ret (hR := ?_)
      rw [hE]
      exact fun w hS => ⟨rfl, hS.sub (by repeat (first | exact SubL.nil | (apply SubL.cons; (repeat (first | exact At.here | apply At.there))) | exact SubL.refl _ | apply SubL.skip))⟩
    · skip
      have hE : orC (xs.drop (k + 1)) = orC xs := by
        rw [← hko, hdr, orC]
        have h' : (!decide (x = 0)) = false := h1
        rw [h']; rfl
      refine skp (h := ?_)
      refine q_blk_norm (h := ?_)
      refine q_seq (h := ?_)
      refine rg (h := ?_)
      refine WL.y (hy := addI) (h := ?_)
      refine WL.y (hy := mv) (h := ?_)
      refine nl (h := ?_)
      refine rn (x := k) (k + 1) ⟨by omega, hE⟩ (by omega) (by repeat (first | exact trivial | refine ⟨rfl, ?_⟩)) (by repeat (first | exact SubL.nil | (apply SubL.cons; (repeat (first | exact At.here | apply At.there))) | exact SubL.refl _ | apply SubL.skip))
  · skip
    have hkn : k = n := by simp only [decide_eq_false_iff_not] at h0; omega
    have hE : orC xs = 0 := by rw [← hko, List.drop_of_length_le (by omega)]; rfl
    refine et (h := ?_)
    refine q_then_exit (h := ?_)
    refine q_then_exit (h := ?_)
    refine q_blk_hit (h := ?_)
    refine q_seq (h := ?_)
    refine sq (h := ?_)
    refine rg (h := ?_)
    refine WL.y (hy := mv) (h := ?_)
    refine WL.y (hy := asg) (h := ?_)
    refine nl (h := ?_)
    refine q_seq (h := ?_)
    refine rtn (h := ?_)
    refine q_ret (hR := ?_)
    rw [hE]
    exact fun w hS => ⟨rfl, hS.sub (by repeat (first | exact SubL.nil | (apply SubL.cons; (repeat (first | exact At.here | apply At.there))) | exact SubL.refl _ | apply SubL.skip))⟩
theorem orC2 (x y : Int) : orC [x, y] = orI x y := by
  unfold orI
  by_cases h : x = 0
  · rw [if_neg (by simpa using h), orC, decide_eq_true h]
    show orC [y] = y
    by_cases h2 : y = 0
    · subst h2; rfl
    · rw [orC, decide_eq_false h2]; rfl
  · rw [if_pos h, orC, decide_eq_false h]; rfl
theorem orC3 (x y z : Int) : orC [x, y, z] = orI (orI x y) z := by
  by_cases h : x = 0
  · rw [orC, decide_eq_true h]
    show orC [y, z] = _
    rw [orC2]
    subst h
    unfold orI
    simp
  · rw [orC, decide_eq_false h]
    show x = _
    unfold orI
    rw [if_pos h, if_pos h]
def SmP (p : Pr) : Prop := (0 ≤ p.1 ∧ p.1 ≤ 100000) ∧ 0 ≤ p.2 ∧ p.2 ≤ 100000
theorem C_card_order (a b : Pr) (ha : SmP a) (hb : SmP b) (w : World) : C0 Try.prog 39 [pv a, pv b] w (.int .i64 (cmpP a b)) := by
  obtain ⟨⟨a1, a2⟩, a3, a4⟩ := ha
  obtain ⟨⟨b1, b2⟩, b3, b4⟩ := hb
  refine ⟨en Try.func39 Try.ntmps39 (St.init w) (h := fun F => ?_)⟩
  refine sq (h := ?_)
  refine rg (h := ?_)
  refine bxA (h := fun b0 => ?_)
  refine bxA (h := fun b1 => ?_)
  refine WL.y (hy := asg) (h := ?_)
  refine nl (h := ?_)
  refine q_seq (h := ?_)
  refine sq (h := ?_)
  refine rg (h := ?_)
  refine WL.y (hy := (by first | exact fa | exact faE)) (h := ?_)
  refine WL.y (hy := (by first | exact ld | exact ldE)) (h := ?_)
  refine WL.y (hy := (by first | exact fa | exact faE)) (h := ?_)
  refine WL.y (hy := (by first | exact ld | exact ldE)) (h := ?_)
  refine WL.y (hy := subI) (h := ?_)
  refine WL.y (hy := (by first | exact fa | exact faE)) (h := ?_)
  refine WL.y (hy := (by first | exact ld | exact ldE)) (h := ?_)
  refine WL.y (hy := (by first | exact fa | exact faE)) (h := ?_)
  refine WL.y (hy := (by first | exact ld | exact ldE)) (h := ?_)
  refine WL.y (hy := subI) (h := ?_)
  refine bs (h := fun b2 => ?_)
  refine cl0 (hc := fun w hS => C_cmpOrC [a.1 - b.1, a.2 - b.2] _ _ _ w (hS.get (by repeat (first | exact Rds.ro | exact Rds.own | apply Rds.there))) (by omega)) (h := ?_)
  rw [orC2]
  refine WL.y (hy := asg) (h := ?_)
  refine nl (h := ?_)
  refine q_seq (h := ?_)
  refine rtn (h := ?_)
  refine q_ret (hR := ?_)
  exact fun w hS => ⟨rfl, hS.sub (by repeat (first | exact SubL.nil | (apply SubL.cons; (repeat (first | exact At.here | apply At.there))) | exact SubL.refl _ | apply SubL.skip))⟩
theorem drop_at {α : Type} {xs : List α} {k : Nat} {x : α} (h : xs[k]? = some x) : xs.drop k = x :: xs.drop (k + 1) := by
  have hk := (List.getElem?_eq_some_iff.1 h).1
  rw [List.drop_eq_getElem_cons hk]
  congr 1
  rw [List.getElem?_eq_getElem hk] at h
  exact Option.some.inj h
theorem C_CompareFunc (a b : List Pr) (A B : Option Addr) (n c m d : Nat) (w : World) (h : Rd w A 2 n (encP a)) (h' : Rd w B 2 m (encP b)) (hn : n ≤ 100000) (hm : m ≤ 100000) (ha : ∀ p ∈ a, SmP p) (hb : ∀ p ∈ b, SmP p) :
    C0 Try.prog 38 [.slice A n c, .slice B m d, .func (.func 39) #[] #[]] w (.int .i64 (cmpL a b)) := by
  have hla : a.length = n := by have := h.len; simpa [encP] using this
  have hlb : b.length = m := by have := h'.len; simpa [encP] using this
  refine ⟨en Try.func38 Try.ntmps38 (((St.init w).share (e := .ro A 2 n (encP a)) h rfl rfl rfl).share (e := .ro B 2 m (encP b)) h' rfl rfl rfl) (h := fun F => ?_)⟩
  refine sq (h := ?_)
  refine rg (h := ?_)
  refine WL.y (hy := asg) (h := ?_)
  refine nl (h := ?_)
  refine q_seq (h := ?_)
  refine sq (h := ?_)
  refine sq (h := ?_)
  refine rg (h := ?_)
  refine WL.y (hy := mv) (h := ?_)
  refine WL.y (hy := lenS) (h := ?_)
  refine WL.y (hy := mv) (h := ?_)
  refine nl (h := ?_)
  refine q_seq (h := ?_)
  refine bk (h := ?_)
  refine lp (X := Nat) (I := fun k => k ≤ n ∧ cmpL (a.drop k) (b.drop k) = cmpL a b) (le := fun k => [(0, .slice A n c), (1, .slice B m d), (2, .func (.func 39) #[] #[]), (11, .slice A n c), (12, .int .i64 n), (13, .int .i64 k)]) (Le := fun _ => [.ro A 2 n (encP a), .ro B 2 m (encP b)]) (μ := fun k => n - k) 0 ⟨Nat.zero_le _, rfl⟩ (by repeat (first | exact trivial | refine ⟨rfl, ?_⟩)) (by repeat (first | exact SubL.nil | (apply SubL.cons; (repeat (first | exact At.here | apply At.there))) | exact SubL.refl _ | apply SubL.skip)) (fun k hk => ?_)
  obtain ⟨hk, hko⟩ := hk
  refine sq (h := ?_)
  refine rg (h := ?_)
  refine WL.y (hy := lss) (h := ?_)
  refine nl (h := ?_)
  refine q_seq (h := ?_)
  refine sq (h := ?_)
  refine cd (by exact rfl) (fun h0 => ?_) (fun h0 => ?_)
  · skip
    have hkn : k < n := by simp only [decide_eq_true_eq] at h0; omega
    obtain ⟨x, hx⟩ : ∃ x, a[k]? = some x := ⟨_, List.getElem?_eq_getElem (by omega)⟩
    have hxe := encP_at hx
    have hda := drop_at hx
    have hxs := ha x (List.mem_of_getElem? hx)
    refine skp (h := ?_)
    refine q_seq (h := ?_)
    refine sq (h := ?_)
    refine bk (h := ?_)
    refine sq (h := ?_)
    refine rg (h := ?_)
    refine WL.y (hy := mv) (h := ?_)
    refine WL.y (hy := ix (A := A) (m := n)) (h := ?_)
    refine WL.y (hy := ldEA (A := A) (hk := hxe)) (h := ?_)
    refine al (h := fun b0 => ?_)
    refine WL.y (hy := asg) (h := ?_)
    first | refine stA (h := ?_) | refine stEA (h := ?_)
    refine nl (h := ?_)
    refine q_seq (h := ?_)
    refine sq (h := ?_)
    refine sq (h := ?_)
    refine rg (h := ?_)
    refine WL.y (hy := mv) (h := ?_)
    refine WL.y (hy := mv) (h := ?_)
    refine WL.y (hy := lenS) (h := ?_)
    refine WL.y (hy := geq) (h := ?_)
    refine nl (h := ?_)
    refine q_seq (h := ?_)
    refine cd (by exact rfl) (fun h1 => ?_) (fun h1 => ?_)
    · skip
      have hkm : m ≤ k := by simp only [decide_eq_true_eq] at h1; omega
      have hE : cmpL a b = 1 := by rw [← hko, hda, List.drop_of_length_le (l := b) (by omega)]; rfl
      refine sq (h := ?_)
      refine rg (h := ?_)
      refine WL.y (hy := asg) (h := ?_)
      refine nl (h := ?_)
      refine q_seq (h := ?_)
      refine rtn (h := ?_)
      refine q_then_ret (h := ?_)
      refine q_blk_ret (h := ?_)
      refine q_then_ret (h := ?_)
      refine q_then_ret (h := ?_)
      refine q_blk_ret (h := ?_)
      refine q_then_ret (h := ?_)
      refine q_ret (hR := ?_)
      rw [hE]
      exact fun w hS => ⟨rfl, hS.sub (by repeat (first | exact SubL.nil | (apply SubL.cons; (repeat (first | exact At.here | apply At.there))) | exact SubL.refl _ | apply SubL.skip))⟩
    · skip
      have hkm : k < m := by simp only [decide_eq_false_iff_not] at h1; omega
      obtain ⟨y, hy⟩ : ∃ y, b[k]? = some y := ⟨_, List.getElem?_eq_getElem (by omega)⟩
      have hye := encP_at hy
      have hdb := drop_at hy
      have hys := hb y (List.mem_of_getElem? hy)
      refine skp (h := ?_)
      refine q_seq (h := ?_)
      refine sq (h := ?_)
      refine rg (h := ?_)
      refine WL.y (hy := mv) (h := ?_)
      refine WL.y (hy := mv) (h := ?_)
      refine WL.y (hy := ix (A := B) (m := m)) (h := ?_)
      refine WL.y (hy := ldEA (A := B) (hk := hye)) (h := ?_)
      refine al (h := fun b1 => ?_)
      first | refine stA (h := ?_) | refine stEA (h := ?_)
      refine nl (h := ?_)
      refine q_seq (h := ?_)
      refine sq (h := ?_)
      refine rg (h := ?_)
      refine WL.y (hy := mv) (h := ?_)
      refine WL.y (hy := (by first | exact ldA | exact ldEA)) (h := ?_)
      refine WL.y (hy := (by first | exact ldA | exact ldEA)) (h := ?_)
      refine clf0 (f := 39) (fi := []) (cap := []) (hx := by exact rfl) (hc := fun w hS => C_card_order x y hxs hys w) (h := ?_)
      refine WL.y (hy := asg) (h := ?_)
      refine nl (h := ?_)
      refine q_seq (h := ?_)
      refine sq (h := ?_)
      refine rg (h := ?_)
      refine WL.y (hy := mv) (h := ?_)
      refine WL.y (hy := neq) (h := ?_)
      refine nl (h := ?_)
      refine q_seq (h := ?_)
      refine cd (by exact rfl) (fun h2 => ?_) (fun h2 => ?_)
      · skip
        have hE : cmpL a b = cmpP x y := by
          have h9 : cmpP x y ≠ 0 := by simpa using h2
          rw [← hko, hda, hdb, cmpL, orI, if_pos h9]
        refine sq (h := ?_)
        refine rg (h := ?_)
        refine WL.y (hy := mv) (h := ?_)
        refine WL.y (hy := asg) (h := ?_)
        refine nl (h := ?_)
        refine q_seq (h := ?_)
        refine rtn (h := ?_)
        refine q_blk_ret (h := ?_)
        refine q_then_ret (h := ?_)
        refine q_then_ret (h := ?_)
        refine q_blk_ret (h := ?_)
        refine q_then_ret (h := ?_)
        refine q_ret (hR := ?_)
        rw [hE]
        exact fun w hS => ⟨rfl, hS.sub (by repeat (first | exact SubL.nil | (apply SubL.cons; (repeat (first | exact At.here | apply At.there))) | exact SubL.refl _ | apply SubL.skip))⟩
      · skip
        have hst : cmpL (a.drop (k + 1)) (b.drop (k + 1)) = cmpL a b := by
          have h9 : cmpP x y = 0 := by simpa using h2
          rw [← hko, hda, hdb, cmpL, orI, if_neg (by rw [h9]; decide)]
        refine skp (h := ?_)
        refine q_blk_norm (h := ?_)
        refine q_seq (h := ?_)
        refine rg (h := ?_)
        refine WL.y (hy := addI) (h := ?_)
        refine WL.y (hy := mv) (h := ?_)
        refine nl (h := ?_)
        refine rn (x := k) (k + 1) ⟨by omega, hst⟩ (by omega) (by repeat (first | exact trivial | refine ⟨rfl, ?_⟩)) (by repeat (first | exact SubL.nil | (apply SubL.cons; (repeat (first | exact At.here | apply At.there))) | exact SubL.refl _ | apply SubL.skip))
  · skip
    have hkn : k = n := by simp only [decide_eq_false_iff_not] at h0; omega
    have hda : a.drop k = [] := List.drop_of_length_le (by omega)
    refine et (h := ?_)
    refine q_then_exit (h := ?_)
    refine q_then_exit (h := ?_)
    refine q_blk_hit (h := ?_)
    refine q_seq (h := ?_)
    refine sq (h := ?_)
    refine sq (h := ?_)
    refine rg (h := ?_)
    refine WL.y (hy := mv) (h := ?_)
    refine WL.y (hy := lenS) (h := ?_)
    refine WL.y (hy := mv) (h := ?_)
    refine WL.y (hy := lenS) (h := ?_)
    refine WL.y (hy := lss) (h := ?_)
    refine nl (h := ?_)
    refine q_seq (h := ?_)
    refine cd (by exact rfl) (fun h3 => ?_) (fun h3 => ?_)
    · skip
      have hE : cmpL a b = -1 := by
        have h9 : (n : Int) < m := of_decide_eq_true h3
        obtain ⟨y, hy⟩ : ∃ y, b[k]? = some y := ⟨_, List.getElem?_eq_getElem (by omega)⟩
        rw [← hko, hda, drop_at hy]; rfl
      refine sq (h := ?_)
      refine rg (h := ?_)
      refine WL.y (hy := asg) (h := ?_)
      refine nl (h := ?_)
      refine q_seq (h := ?_)
      refine rtn (h := ?_)
      refine q_then_ret (h := ?_)
      refine q_ret (hR := ?_)
      rw [hE]
      exact fun w hS => ⟨rfl, hS.sub (by repeat (first | exact SubL.nil | (apply SubL.cons; (repeat (first | exact At.here | apply At.there))) | exact SubL.refl _ | apply SubL.skip))⟩
    · skip
      have hE : cmpL a b = 0 := by
        have h9 : ¬ (n : Int) < m := of_decide_eq_false h3
        rw [← hko, hda, List.drop_of_length_le (l := b) (by omega)]; rfl
      refine skp (h := ?_)
      refine q_seq (h := ?_)
      refine sq (h := ?_)
      refine rg (h := ?_)
      refine WL.y (hy := asg) (h := ?_)
      refine nl (h := ?_)
      refine q_seq (h := ?_)
      refine rtn (h := ?_)
      refine q_ret (hR := ?_)
      rw [hE]
      exact fun w hS => ⟨rfl, hS.sub (by repeat (first | exact SubL.nil | (apply SubL.cons; (repeat (first | exact At.here | apply At.there))) | exact SubL.refl _ | apply SubL.skip))⟩
structure BrdSm (b : Brd) : Prop where
  st : ∀ p ∈ b.st, SmP p
  g : SmP b.g
  p : SmP b.p
  n : b.st.length ≤ 100000
set_option maxRecDepth 100000 in
theorem C_Boards1 (a b : Brd) (A B : Option Addr) (c d : Nat) (ha : BrdSm a) (hb : BrdSm b) (w : World) (h : Rd w A 2 a.st.length (encP a.st)) (h' : Rd w B 2 b.st.length (encP b.st)) :
    C0 Try.prog 36 [a.val A a.st.length c, b.val B b.st.length d] w (.int .i64 (cmpB a b)) := by
  refine ⟨en Try.func36 Try.ntmps36 (((St.init w).share (e := .ro A 2 a.st.length (encP a.st)) h rfl rfl rfl).share (e := .ro B 2 b.st.length (encP b.st)) h' rfl rfl rfl) (h := fun F => ?_)⟩
  refine sq (h := ?_)
  refine rg (h := ?_)
  refine bxA (h := fun b0 => ?_)
  refine bxA (h := fun b1 => ?_)
  refine WL.y (hy := asg) (h := ?_)
  refine nl (h := ?_)
  refine q_seq (h := ?_)
  refine sq (h := ?_)
  refine rgD0 (by kernel_rfl) (h := ?_)
  refine tk 0 (hy := (by first | exact fa | exact faE)) (h := ?_)
  refine tk 1 (hy := (by first | exact ld | exact ldE)) (h := ?_)
  refine tk 2 (hy := (by first | exact fa | exact faE)) (h := ?_)
  refine tk 3 (hy := (by first | exact ld | exact ldE)) (h := ?_)
  refine tk 5 (hy := (by first | exact fa | exact faE)) (h := ?_)
  refine tk 6 (hy := (by first | exact ldA | exact ldEA)) (h := ?_)
  refine tk 7 (hy := (by first | exact fa | exact faE)) (h := ?_)
  refine tk 8 (hy := (by first | exact ldA | exact ldEA)) (h := ?_)
  refine tk 10 (hy := (by first | exact fa | exact faE)) (h := ?_)
  refine tk 11 (hy := (by first | exact ldA | exact ldEA)) (h := ?_)
  refine tk 12 (hy := (by first | exact fa | exact faE)) (h := ?_)
  refine tk 13 (hy := (by first | exact ldA | exact ldEA)) (h := ?_)
  refine one 4 (h := ?_)
  refine cl0 (hc := fun w hS => C_CompareFunc a.st b.st A B _ c _ d w (hS.get (by repeat (first | exact Rds.ro | exact Rds.own | apply Rds.there))) (hS.get (by repeat (first | exact Rds.ro | exact Rds.own | apply Rds.there))) ha.n hb.n ha.st hb.st) (h := ?_)
  refine nx (h := ?_)
  refine one 9 (h := ?_)
  refine cl0 (hc := fun w hS => C_card_order a.g b.g ha.g hb.g w) (h := ?_)
  refine nx (h := ?_)
  refine one 14 (h := ?_)
  refine cl0 (hc := fun w hS => C_card_order a.p b.p ha.p hb.p w) (h := ?_)
  refine nx (h := ?_)
  refine one 15 (h := ?_)
  refine bs (h := fun b2 => ?_)
  refine nx (h := ?_)
  refine one 16 (h := ?_)
  refine cl0 (hc := fun w hS => C_cmpOrC [cmpL a.st b.st, cmpP a.g b.g, cmpP a.p b.p] _ _ _ w (hS.get (by repeat (first | exact Rds.ro | exact Rds.own | apply Rds.there))) (by omega)) (h := ?_)
  rw [orC3]
  refine nx (h := ?_)
  refine tk 17 (hy := asg) (h := ?_)
  refine dn (h := ?_)
  refine q_seq (h := ?_)
  refine rtn (h := ?_)
  refine q_ret (hR := ?_)
  exact fun w hS => ⟨rfl, hS.sub (by repeat (first | exact SubL.nil | (apply SubL.cons; (repeat (first | exact At.here | apply At.there))) | exact SubL.refl _ | apply SubL.skip))⟩
set_option maxRecDepth 100000 in
theorem C_spot_board (s : Spot) (h5 : s.st.length ≤ 5) (w : World) : CR Try.prog 35 [.agg (spotC s).toArray] w (fun _ : Option Addr × Nat => True) (fun p => (brdOf s).val p.1 s.st.length p.2) (fun p => [.own p.1 p.2 38 2 s.st.length (encP s.st)]) := by
  refine ⟨en Try.func35 Try.ntmps35 (St.init w) (h := fun F => ?_)⟩
  refine sq (h := ?_)
  refine rg (h := ?_)
  refine bxA (h := fun b0 => ?_)
  refine al (h := fun b1 => ?_)
  refine nl (h := ?_)
  refine q_seq (h := ?_)
  refine sq (h := ?_)
  refine rgD (by kernel_rfl) [(10, .blk b1 44 [.slice none 0 0, .int .i64 0, .int .i64 0, .int .i64 0, .int .i64 0]), (1000000, .blk b0 89 (spotC s))] (by repeat (first | exact HS.nil | (apply HS.keep; (repeat (first | exact At.here | apply At.there))) | (apply HS.ro; (repeat (first | exact Rds.ro | exact Rds.own | apply Rds.there))))) (h := ?_)
  refine tk 0 (hy := (by first | exact fa | exact faE)) (h := ?_)
  refine tk 1 (hy := (by first | exact fa | exact faE)) (h := ?_)
  refine tk 2 (hy := (by first | exact ld | exact ldE)) (h := ?_)
  refine tk 3 (hy := slAh (hb := by omega) (hne := by decide)) (h := ?_)
  refine tk 5 (hy := (by first | exact fa | exact faE)) (h := ?_)
  refine tk 6 (hy := (by first | exact ldA | exact ldEA)) (h := ?_)
  refine tk 7 (hy := (by first | exact fa | exact faE)) (h := ?_)
  refine tk 8 (hy := (by first | exact ldA | exact ldEA)) (h := ?_)
  refine one 4 (h := ?_)
  rw [Int.toNat_natCast]
  refine cl (hc := fun w hS => C_ClonePairs _ _ _ (encP s.st) w (hS.get (Rds.there (Rds.any fun w hw => rd_sets h5 hw))) (by omega)) (h := fun p1 _ => ?_)
  refine nx (h := ?_)
  refine tk 9 (hy := bd) (h := ?_)
  refine one 10 (h := ?_)
  first | refine stA (h := ?_) | refine stEA (h := ?_)
  refine nx (h := ?_)
  refine dn (h := ?_)
  refine q_seq (h := ?_)
  refine rtn (h := ?_)
  refine q_ret (hR := ?_)
  exact fun w hS => ⟨p1, trivial, rfl, hS.sub (by repeat (first | exact SubL.nil | (apply SubL.cons; (repeat (first | exact At.here | apply At.there))) | exact SubL.refl _ | apply SubL.skip))⟩
end Go.Proofs.Ytncoimjgjpcipaa

namespace Go.Proofs.Ytncoimjgjpcipaa
open Go Go.RowKit

theorem St.clearN {w0 : World} {M : List Ent} {g cap : Nat} {T : TypeId} {n size : Nat} (h0 : 0 < size) : ∀ (vs : List Value) (i : Nat) (w : World) (es : List (List Value)), i + vs.length = n * size → (∀ v ∈ vs, v.oneCell' = true) → St w0 w (.own (some ⟨g, 0, none⟩) cap T size n es :: M) →
    ∃ es', St w0 (w.setCells g i vs) (.own (some ⟨g, 0, none⟩) cap T size n es' :: M) ∧ ∀ lo, lo * size ≤ i → es'.take lo = es.take lo
  | [], i, w, es, _, _, h => ⟨es, h, fun _ _ => rfl⟩
  | v :: vs, i, w, es, hi, h1, h => by
    have hlen : es.length = n := (h.ok (.own (some ⟨g, 0, none⟩) cap T size n es) (by simp)).2.len
    rw [List.length_cons] at hi
    have hk : i / size < n := by rw [Nat.div_lt_iff_lt_mul h0]; omega
    have he : es[i / size]? = some (es[i / size]'(by omega)) := List.getElem?_eq_getElem (by omega)
    obtain ⟨ad, had, _, _, hs⟩ := own_set h he (j := i % size) (v := v) (Nat.mod_lt _ h0) (h1 v (by simp))
    injection had with had; subst had
    have e : (⟨g, 0, none⟩ : Addr).add (i / size * size + i % size) = ⟨g, i, none⟩ := by
      rw [add_lit, Nat.mul_comm, Nat.div_add_mod]; simp
    rw [e] at hs
    obtain ⟨es', hs', ht⟩ := St.clearN h0 vs (i + 1) _ _ (by omega) (fun u hu => h1 u (by simp [hu])) hs
    refine ⟨es', hs', fun lo hlo => ?_⟩
    rw [ht lo (by omega), List.take_set_of_le]
    exact (Nat.le_div_iff_mul_le h0).2 hlo
theorem zeroCells_mem {zl : List Value} {n : Nat} (h0 : 0 < zl.length) {v : Value} (h : v ∈ (Builtin.zeroCells zl.toArray n).toList) : v ∈ zl := by
  simp only [Builtin.zeroCells, Array.toList_map, List.mem_map] at h
  obtain ⟨i, _, rfl⟩ := h
  have hm : i % zl.length < zl.length := Nat.mod_lt _ h0
  simp only [List.size_toArray]
  rw [getElem!_pos zl.toArray (i % zl.length) (by simpa using hm)]
  simp
theorem zeroCells_len (zl : List Value) (n : Nat) : (Builtin.zeroCells zl.toArray n).toList.length = n * zl.length := by
  simp [Builtin.zeroCells]
section rules
variable {F : Fence} {P : Program} {ops : Array Oper} {Q : Exit → Act → World → Prop} {rest : List Oper} {n : Nat} {D : List Deferred} {l : Env} {w0 : World} {L M : List Ent}
variable {d : Nat} {ty : TypeId} {pos : String} {aft : Array Edge}
theorem clrS {x : Operand} {t T : TypeId} (hT : SliceTy P t T := by infer_instance) {agg : Bool} {size bytes : Nat} {z : Value} {zl : List Value} (hE : Ty P T agg size bytes z zl := by infer_instance) (h1 : zl.all (·.oneCell') = true := by rfl) (h0 : 0 < size := by decide) {A : Option Addr} {m cap : Nat} (lo : Nat) {es : List (List Value)}
    (hx : ev l x = some (.slice (if cap = lo then A else A.map (·.add (lo * size))) (m - lo) (cap - lo)) := by exact rfl) (ha : At L (.own A cap T size m es) M := by repeat (first | exact At.here | apply At.there)) (hlo : lo < m)
    (h : ∀ es', es'.take lo = es.take lo → WL F P ops Q rest n D l w0 (.own A cap T size m es' :: M)) : WL F P ops Q (⟨none, .call { callee := .builtin .clear, args := #[x], argTypes := #[t] }, ty, pos, aft, none⟩ :: rest) n D l w0 L := by
  intro hF a w hfr hst
  have hst1 := hst.pull ha
  obtain ⟨hown, hrd⟩ := hst1.ok (.own A cap T size m es) (by simp)
  rcases hown.2 with ⟨hv, h0'⟩ | ⟨g, cap', cur, hv, hb, hg, g1, g2, g3, g4⟩
  · injection hv with e1 e2 e3
    have := hrd.len; have := hrd.some_ (by omega)
    obtain ⟨_, h⟩ := this
    rw [e1] at h; cases h
  injection hv with e1 e2 e3; subst e1 e3
  have hne : ¬ (cap = lo) := by
    have := hst1.room; omega
  have hzl : zl.length = size := hE.zs
  have hsum : lo * size + (Builtin.zeroCells zl.toArray (m - lo)).toList.length = m * size := by
    rw [zeroCells_len, hzl, ← Nat.add_mul]; congr 1; omega
  have hone : ∀ v ∈ (Builtin.zeroCells zl.toArray (m - lo)).toList, v.oneCell' = true := fun v hv => List.all_eq_true.1 h1 v (zeroCells_mem (by omega) hv)
  obtain ⟨es', hs', ht⟩ := St.clearN h0 _ (lo * size) w es hsum hone hst1
  have he := hfr.eval hx
  rw [if_neg hne] at he
  have hadd : (⟨g, 0, none⟩ : Addr).add (lo * size) = ⟨g, lo * size, none⟩ := by rw [add_lit]; simp
  have hst := run_storeCells_cells (P := P) g (lo * size) _ 0 w (fun j hj => by
      rw [zeroCells_len, hzl] at hj
      have hlt : lo * size + j < m * size := by rw [zeroCells_len, hzl] at hsum; omega
      have hk' : (lo * size + j) / size < m := by rw [Nat.div_lt_iff_lt_mul h0]; exact hlt
      have hk : es[(lo * size + j) / size]? = some (es[(lo * size + j) / size]'(by rw [hrd.len]; exact hk')) := List.getElem?_eq_getElem _
      have hl := hrd.each _ (List.mem_of_getElem? hk)
      have := hrd.cell _ rfl _ _ hk ((lo * size + j) % size) _ (List.getElem?_eq_getElem (by rw [hl]; exact Nat.mod_lt _ h0))
      rw [add_lit, Nat.mul_comm _ size, Nat.div_add_mod] at this
      simp at this
      simp [this]) (fun j hj => hown.frozenAt _) hone
  rw [Nat.add_zero] at hst
  have hrun : (Builtin.clear_ #[t] ty #[.slice (some ⟨g, lo * size, none⟩) (m - lo) (cap - lo)]).run P w = .ok (.tuple #[]) (w.setCells g (lo * size) (Builtin.zeroCells zl.toArray (m - lo)).toList) := by
    have hzv : (zeroValue T).run P w = .ok z w := run_zeroValue hE w
    obtain ⟨q, hq⟩ : ∃ q, m - lo = q + 1 := ⟨m - lo - 1, by omega⟩
    rw [hq] at hst ⊢
    simp [Builtin.clear_, run_underlying hT.und, hzv, hE.zc, hst]
  show (if _ then _ else _)
  rw [if_pos (by simp [Region.wanted])]
  refine ⟨fun f _ => hF.fn f, ?_⟩
  have hr : (execOp a.eval ⟨none, .call { callee := .builtin .clear, args := #[x], argTypes := #[t] }, ty, pos, aft, none⟩).run P w = .ok (.value (.tuple #[])) (w.setCells g (lo * size) (Builtin.zeroCells zl.toArray (m - lo)).toList) := by
    simp only [Option.map_some, hadd] at he
    simp [execOp, resolve, invoke, builtin, he, hrun]
  rw [semAt_plain (by simp), hr]
  exact h es' (ht lo (Nat.le_refl _)) hF _ _ (hfr.put_none _) hs'
end rules

section
variable {F : Fence} {P : Program} {Q : Exit → Act → World → Prop} {n : Nat} {D : List Deferred} {l : Env} {w0 : World} {L M M' M'' : List Ent}
end
end Go.Proofs.Ytncoimjgjpcipaa

namespace Go.Proofs.Ytncoimjgjpcipaa
open Go Go.RowKit

structure BA where
  (b : Brd) (A : Option Addr) (c : Nat)
abbrev BA.cells (x : BA) : List Value := x.b.cells x.A x.b.st.length x.c
abbrev BA.val (x : BA) : Value := x.b.val x.A x.b.st.length x.c
def encX (xs : List BA) : List (List Value) := xs.map BA.cells
theorem encX_at {xs : List BA} {k : Nat} {x : BA} (h : xs[k]? = some x) : (encX xs)[k]? = some x.cells := by unfold encX; rw [List.getElem?_map, h]; rfl
theorem encX_set (xs : List BA) (k : Nat) (x : BA) : (encX xs).set k x.cells = encX (xs.set k x) := by unfold encX; rw [List.map_set]
theorem encX_take (xs : List BA) (k : Nat) : (encX xs).take k = encX (xs.take k) := by unfold encX; rw [List.map_take]
def kpX : BA → List BA → List BA
  | _, [] => []
  | p, x :: l => if x.b = p.b then kpX x l else x :: kpX x l
def cptX : List BA → List BA
  | [] => []
  | x :: l => x :: kpX x l
theorem cpt_kp : ∀ (l : List BA) (p : BA), cptB ((p :: l).map (·.b)) = p.b :: (kpX p l).map (·.b)
  | [], p => rfl
  | x :: l, p => by
    have ih := cpt_kp l x
    show cptB (p.b :: x.b :: l.map (·.b)) = _
    rw [List.map_cons] at ih
    rw [cptB, kpX]
    by_cases h : p.b = x.b
    · rw [if_pos h, if_pos h.symm, ih, h]
    · rw [if_neg h, if_neg (fun e => h e.symm), ih, List.map_cons]
theorem cptX_b (l : List BA) : (cptX l).map (·.b) = cptB (l.map (·.b)) := by
  cases l with
  | nil => rfl
  | cons x l => exact (cpt_kp l x).symm
theorem kpX_mem : ∀ {l : List BA} {p y : BA}, y ∈ kpX p l → y ∈ l
  | x :: l, p, y, h => by
    rw [kpX] at h
    by_cases e : x.b = p.b
    · rw [if_pos e] at h; exact List.mem_cons_of_mem _ (kpX_mem h)
    · rw [if_neg e] at h
      rcases List.mem_cons.1 h with rfl | h
      · exact List.mem_cons_self
      · exact List.mem_cons_of_mem _ (kpX_mem h)
theorem cptX_mem {l : List BA} {y : BA} (h : y ∈ cptX l) : y ∈ l := by
  cases l with
  | nil => cases h
  | cons x l =>
    rcases List.mem_cons.1 h with rfl | h
    · exact List.mem_cons_self
    · exact List.mem_cons_of_mem _ (kpX_mem h)
def PfX (xs : List BA) (k : Nat) : Prop := ∃ p, xs[k - 1]? = some p ∧ cptX xs = xs.take k ++ kpX p (xs.drop k)
theorem pf_start {xs : List BA} (h : 0 < xs.length) : PfX xs 1 := by
  cases xs with
  | nil => cases h
  | cons x l => exact ⟨x, rfl, rfl⟩
theorem pf_step {xs : List BA} {k : Nat} {x p : BA} (hk : 1 ≤ k) (h : PfX xs k) (hx : xs[k]? = some x) (hp : xs[k - 1]? = some p) (hne : ¬ x.b = p.b) : PfX xs (k + 1) := by
  obtain ⟨p', h1, h2⟩ := h
  rw [hp] at h1
  cases h1
  refine ⟨x, by rw [Nat.add_sub_cancel]; exact hx, ?_⟩
  rw [h2, drop_at hx, kpX, if_neg hne, List.take_add_one, hx]
  simp
theorem pf_end {xs : List BA} (h : PfX xs xs.length) : cptX xs = xs := by
  obtain ⟨p, _, h2⟩ := h
  rw [h2, List.take_length, List.drop_length, kpX, List.append_nil]
structure CP2 where
  (k k2 : Nat) (zs : List BA)
structure CP2.Ok (xs : List BA) (k0 : Nat) (z : CP2) : Prop where
  lt : z.k + 1 ≤ k0 + z.k2
  k2 : 1 ≤ z.k2
  le : k0 + z.k2 ≤ xs.length
  len : z.zs.length = xs.length
  dr : ∀ i, k0 + z.k2 ≤ i + 1 → z.zs[i]? = xs[i]?
  tk : ∃ p, xs[k0 + z.k2 - 1]? = some p ∧ cptX xs = z.zs.take z.k ++ kpX p (xs.drop (k0 + z.k2))
theorem CP2.start {xs : List BA} {k0 : Nat} {x p : BA} (hk : 1 ≤ k0) (h : PfX xs k0) (hx : xs[k0]? = some x) (hp : xs[k0 - 1]? = some p) (he : x.b = p.b) : CP2.Ok xs k0 ⟨k0, 1, xs⟩ := by
  have hlt := (List.getElem?_eq_some_iff.1 hx).1
  obtain ⟨p', h1, h2⟩ := h
  rw [hp] at h1
  cases h1
  refine ⟨by dsimp only; omega, Nat.le_refl _, by dsimp only; omega, rfl, fun i _ => rfl, x, by dsimp only; rw [Nat.add_sub_cancel]; exact hx, ?_⟩
  rw [h2, drop_at hx, kpX, if_pos he]
theorem CP2.skip {xs : List BA} {k0 : Nat} {z : CP2} (h : z.Ok xs k0) {x p : BA} (hx : xs[k0 + z.k2]? = some x) (hp : xs[k0 + z.k2 - 1]? = some p) (he : x.b = p.b) : CP2.Ok xs k0 ⟨z.k, z.k2 + 1, z.zs⟩ := by
  have hlt := (List.getElem?_eq_some_iff.1 hx).1
  have h0 := h.lt; have h1 := h.k2; have h2 := h.le
  obtain ⟨p', h3, h4⟩ := h.tk
  rw [hp] at h3
  cases h3
  refine ⟨by dsimp only; omega, by dsimp only; omega, by dsimp only; omega, h.len, fun i hi => h.dr i (by dsimp only at hi; omega), x, by dsimp only; rw [show k0 + (z.k2 + 1) - 1 = k0 + z.k2 by omega]; exact hx, ?_⟩
  rw [h4, drop_at hx, kpX, if_pos he]; rfl
theorem CP2.keep {xs : List BA} {k0 : Nat} {z : CP2} (h : z.Ok xs k0) {x p : BA} (hx : xs[k0 + z.k2]? = some x) (hp : xs[k0 + z.k2 - 1]? = some p) (he : ¬ x.b = p.b) : CP2.Ok xs k0 ⟨z.k + 1, z.k2 + 1, z.zs.set z.k x⟩ := by
  have hlt := (List.getElem?_eq_some_iff.1 hx).1
  have h0 := h.lt; have h1 := h.k2; have h2 := h.le; have hl := h.len
  obtain ⟨p', h3, h4⟩ := h.tk
  rw [hp] at h3
  cases h3
  refine ⟨by dsimp only; omega, by dsimp only; omega, by dsimp only; omega, by simp [hl], fun i hi => ?_, x, by dsimp only; rw [show k0 + (z.k2 + 1) - 1 = k0 + z.k2 by omega]; exact hx, ?_⟩
  · dsimp only at hi ⊢
    rw [List.getElem?_set_ne (by omega)]
    exact h.dr i (by omega)
  · dsimp only
    rw [h4, drop_at hx, kpX, if_neg he, List.take_add_one, List.take_set, List.getElem?_set_self (by omega)]
    rw [List.set_eq_of_length_le (by rw [List.length_take]; omega)]
    simp [Nat.add_assoc]
theorem CP2.fin {xs : List BA} {k0 : Nat} {z : CP2} (h : z.Ok xs k0) (he : k0 + z.k2 = xs.length) : cptX xs = z.zs.take z.k := by
  obtain ⟨p, _, h2⟩ := h.tk
  rw [h2, he, List.drop_length, kpX, List.append_nil]
set_option maxRecDepth 100000 in
theorem T_Boards2 (E : Ent) (x y : BA) (b : Nat) (T : TypeId) (hx : ∀ w, E.ok w → Rd w x.A 2 x.b.st.length (encP x.b.st)) (hy : ∀ w, E.ok w → Rd w y.A 2 y.b.st.length (encP y.b.st)) (sx : BrdSm x.b) (sy : BrdSm y.b) :
    Tr Try.prog 42 [x.val, y.val, .pointer (some ⟨b, 0, none⟩)] [E, .blk b T [.func (.func 36) #[] #[]]] (fun _ : Unit => True) (fun _ => .bool (decide (x.b = y.b))) (fun _ => [E, .blk b T [.func (.func 36) #[] #[]]]) := by
  refine ⟨fun w0 w R hst => ?_⟩
  have hd : decide (cmpB x.b y.b = 0) = decide (x.b = y.b) := decide_eq_decide.2 cmpB_zero
  refine en Try.func42 Try.ntmps42 hst (h := fun F => ?_)
  refine sq (h := ?_)
  refine rg (h := ?_)
  refine bxA (h := fun b0 => ?_)
  refine bxA (h := fun b1 => ?_)
  refine WL.y (hy := asg) (h := ?_)
  refine nl (h := ?_)
  refine q_seq (h := ?_)
  refine sq (h := ?_)
  refine rg (h := ?_)
  refine WL.y (hy := (by first | exact ld | exact ldE)) (h := ?_)
  refine WL.y (hy := (by first | exact ldA | exact ldEA)) (h := ?_)
  refine WL.y (hy := (by first | exact ldA | exact ldEA)) (h := ?_)
  refine clf0 (f := 36) (fi := []) (cap := []) (hx := by exact rfl) (hc := fun w hS => C_Boards1 x.b y.b x.A y.A x.c y.c sx sy w (hx w (hS.ok E (by simp))) (hy w (hS.ok E (by simp)))) (h := ?_)
  refine WL.y (hy := eql) (h := ?_)
  refine WL.y (hy := asg) (h := ?_)
  refine nl (h := ?_)
  refine q_seq (h := ?_)
  refine rtn (h := ?_)
  refine q_ret (hR := ?_)
  rw [hd]
  exact fun w hS => ⟨(), trivial, rfl, hS.sub (by repeat (first | exact SubL.nil | (apply SubL.cons; (repeat (first | exact At.here | apply At.there))) | exact SubL.refl _ | apply SubL.skip))⟩
end Go.Proofs.Ytncoimjgjpcipaa

namespace Go.Proofs.Ytncoimjgjpcipaa
open Go Go.RowKit

theorem rd_from {w : World} {A : Option Addr} {c n k0 : Nat} {T : TypeId} {es : List (List Value)} (hc : n ≤ c) (hk : k0 ≤ n) (h : (Ent.own A c T 5 n es).ok w) : Rd w (if c = k0 then A else A.map (·.add (k0 * 5))) 5 (n - k0) ((es.drop k0).take (n - k0)) := h.2.part c k0 n hk (Nat.le_refl _) hc
theorem from_at {xs : List BA} {n k0 k2 : Nat} {x : BA} (hl : xs.length = n) (hx : xs[k0 + k2]? = some x) : (((encX xs).drop k0).take (n - k0))[k2]? = some x.cells := by
  have hlt := (List.getElem?_eq_some_iff.1 hx).1
  rw [List.getElem?_take, if_pos (by omega), List.getElem?_drop]
  exact encX_at hx
set_option maxRecDepth 100000 in
set_option maxHeartbeats 4194304 in
theorem T_Compact (E : Ent) (xs : List BA) (A : Option Addr) (n c b : Nat) (T : TypeId) (hl : xs.length = n) (hn : n ≤ 4194304) (hE : ∀ x ∈ xs, ∀ w, E.ok w → Rd w x.A 2 x.b.st.length (encP x.b.st)) (hS : ∀ x ∈ xs, BrdSm x.b) :
    Tr Try.prog 41 [.slice A n c, .func (.func 42) #[] #[.pointer (some ⟨b, 0, none⟩)]] [.own A c 44 5 n (encX xs), E, .blk b T [.func (.func 36) #[] #[]]] (fun _ : Unit => True) (fun _ => .slice A (cptX xs).length c) (fun _ => [.own A c 44 5 (cptX xs).length (encX (cptX xs)), E]) := by
  refine ⟨fun w0 w R hst => ?_⟩
  refine en Try.func41 Try.ntmps41 hst (h := fun F => ?_)
  refine WC.room .here (fun hroom => ?_)
  refine sq (h := ?_)
  refine rg (h := ?_)
  refine WL.y (hy := asg) (h := ?_)
  refine nl (h := ?_)
  refine q_seq (h := ?_)
  refine sq (h := ?_)
  refine sq (h := ?_)
  refine rg (h := ?_)
  refine WL.y (hy := mv) (h := ?_)
  refine WL.y (hy := lenS) (h := ?_)
  refine WL.y (hy := lss) (h := ?_)
  refine nl (h := ?_)
  refine q_seq (h := ?_)
  refine cd (by exact rfl) (fun h0 => ?_) (fun h0 => ?_)
  · skip
    have hE1 : cptX xs = xs := by
      have h9 : (n : Int) < 2 := of_decide_eq_true h0
      match xs, hl with
      | [], _ => rfl
      | [x], _ => rfl
      | _ :: _ :: _, hl => simp at hl; omega
    refine sq (h := ?_)
    refine rg (h := ?_)
    refine WL.y (hy := mv) (h := ?_)
    refine WL.y (hy := asg) (h := ?_)
    refine nl (h := ?_)
    refine q_seq (h := ?_)
    refine rtn (h := ?_)
    refine q_then_ret (h := ?_)
    refine q_ret (hR := ?_)
    exact fun w hS => ⟨(), trivial, by rw [hE1, hl]; rfl, by rw [hE1, hl]; exact hS.sub (by repeat (first | exact SubL.nil | (apply SubL.cons; (repeat (first | exact At.here | apply At.there))) | exact SubL.refl _ | apply SubL.skip))⟩
  · skip
    have hn2 : 2 ≤ n := by have h9 : ¬ (n : Int) < 2 := of_decide_eq_false h0; omega
    refine skp (h := ?_)
    refine q_seq (h := ?_)
    refine sq (h := ?_)
    refine sq (h := ?_)
    refine rg (h := ?_)
    refine WL.y (hy := asg) (h := ?_)
    refine WL.cut (by repeat (first | exact Cut.nil | apply Cut.hit | apply Cut.miss (by exact rfl))) ?_
    refine nl (h := ?_)
    refine q_seq (h := ?_)
    refine bk (h := ?_)
    refine lp (X := Nat) (I := fun k => 1 ≤ k ∧ k ≤ n ∧ PfX xs k) (le := fun k => [(0, .slice A n c), (1, .func (.func 42) #[] #[.pointer (some ⟨b, 0, none⟩)]), (5, .int .i64 k)]) (Le := fun _ => .own A c 44 5 n (encX xs) :: E :: .blk b T [.func (.func 36) #[] #[]] :: R) (μ := fun k => n - k) 1 ⟨Nat.le_refl _, by omega, pf_start (by omega)⟩ (by repeat (first | exact trivial | refine ⟨rfl, ?_⟩)) (by repeat (first | exact SubL.nil | (apply SubL.cons; (repeat (first | exact At.here | apply At.there))) | exact SubL.refl _ | apply SubL.skip)) (fun k hk => ?_)
    obtain ⟨hk1, hk2, hkp⟩ := hk
    refine sq (h := ?_)
    refine sq (h := ?_)
    refine rg (h := ?_)
    refine WL.y (hy := mv) (h := ?_)
    refine WL.y (hy := mv) (h := ?_)
    refine WL.y (hy := lenS) (h := ?_)
    refine WL.y (hy := lss) (h := ?_)
    refine nl (h := ?_)
    refine q_seq (h := ?_)
    refine cd (by exact rfl) (fun h1 => ?_) (fun h1 => ?_)
    · skip
      have hkn : k < n := by simp only [decide_eq_true_eq] at h1; omega
      obtain ⟨x, hx⟩ : ∃ x, xs[k]? = some x := ⟨_, List.getElem?_eq_getElem (by omega)⟩
      obtain ⟨p, hp⟩ : ∃ p, xs[k - 1]? = some p := ⟨_, List.getElem?_eq_getElem (by omega)⟩
      have hxm := List.mem_of_getElem? hx
      have hpm := List.mem_of_getElem? hp
      have hxe := encX_at hx
      have hpe : (encX xs)[((k : Int) - 1).toNat]? = some p.cells := by rw [show ((k : Int) - 1).toNat = k - 1 by omega]; exact encX_at hp
      refine skp (h := ?_)
      refine q_seq (h := ?_)
      refine sq (h := ?_)
      refine bk (h := ?_)
      refine sq (h := ?_)
      refine rgD (by kernel_rfl) [(4194304, .own A c 44 5 n (encX xs))] (by repeat (first | exact HS.nil | (apply HS.keep; (repeat (first | exact At.here | apply At.there))) | (apply HS.ro; (repeat (first | exact Rds.ro | exact Rds.own | apply Rds.there))))) (h := ?_)
      refine tk 0 (hy := mv) (h := ?_)
      refine tk 1 (hy := mv) (h := ?_)
      refine tk 2 (hy := mv) (h := ?_)
      refine tk 3 (hy := ix (A := A) (m := n)) (h := ?_)
      refine tk 4 (hy := ldEA (A := A) (hk := hxe)) (h := ?_)
      refine tk 5 (hy := mv) (h := ?_)
      refine tk 6 (hy := mv) (h := ?_)
      refine tk 7 (hy := subI) (h := ?_)
      refine tk 8 (hy := ix (A := A) (m := n)) (h := ?_)
      refine tk 9 (hy := ldEA (A := A) (hk := hpe)) (h := ?_)
      refine one 10 (h := ?_)
      refine clfT inferInstance (fi := []) (cap := [.pointer (some ⟨b, 0, none⟩)]) (by exact rfl) (by repeat (first | exact Evs.nil | (apply Evs.cons; exact rfl))) (T_Boards2 E x p b T (hE x hxm) (hE p hpm) (hS x hxm) (hS p hpm)) rfl (by repeat (first | exact Spl.nil | (apply Spl.cons; (repeat (first | exact At.here | apply At.there))))) (h := fun _ _ => ?_)
      refine nx (h := ?_)
      refine dn (h := ?_)
      refine q_seq (h := ?_)
      refine cd (by exact rfl) (fun h2 => ?_) (fun h2 => ?_)
      · skip
        have hxp : x.b = p.b := of_decide_eq_true h2
        have hs0 := CP2.start hk1 hkp hx hp hxp
        refine sq (h := ?_)
        refine rg (h := ?_)
        refine WL.y (hy := mv) (h := ?_)
        refine WL.y (hy := mv) (h := ?_)
        refine WL.y (hy := slV (A := A) (m := n) (cap := c) (lo' := k) (hi' := n) (hh := .inl ⟨rfl, rfl⟩) (hl := .inr ⟨_, _, _, rfl, rfl, by omega, by omega, by omega⟩)) (h := ?_)
        refine WL.y (hy := asg) (h := ?_)
        refine nl (h := ?_)
        refine q_seq (h := ?_)
        refine sq (h := ?_)
        refine sq (h := ?_)
        refine rg (h := ?_)
        refine WL.y (hy := asg) (h := ?_)
        refine WL.cut (by repeat (first | exact Cut.nil | apply Cut.hit | apply Cut.miss (by exact rfl))) ?_
        refine nl (h := ?_)
        refine q_seq (h := ?_)
        refine bk (h := ?_)
        refine lp (X := CP2) (I := fun z => z.Ok xs k) (le := fun z => [(0, .slice A n c), (1, .func (.func 42) #[] #[.pointer (some ⟨b, 0, none⟩)]), (5, .int .i64 z.k), (6, .slice (if c = k then A else A.map (·.add (k * 5))) (n - k) (c - k)), (7, .int .i64 z.k2)]) (Le := fun z => .own A c 44 5 n (encX z.zs) :: E :: .blk b T [.func (.func 36) #[] #[]] :: R) (μ := fun z => n - z.k2) ⟨k, 1, xs⟩ hs0 (by repeat (first | exact trivial | refine ⟨rfl, ?_⟩)) (by repeat (first | exact SubL.nil | (apply SubL.cons; (repeat (first | exact At.here | apply At.there))) | exact SubL.refl _ | apply SubL.skip)) (fun z hzo => ?_)
        have hzl : z.zs.length = n := hzo.len.trans hl
        have hzlt := hzo.lt
        have hzle := hzo.le
        have hzk2 := hzo.k2
        refine sq (h := ?_)
        refine sq (h := ?_)
        refine rg (h := ?_)
        refine WL.y (hy := mv) (h := ?_)
        refine WL.y (hy := mv) (h := ?_)
        refine WL.y (hy := lenS) (h := ?_)
        refine WL.y (hy := lss) (h := ?_)
        refine nl (h := ?_)
        refine q_seq (h := ?_)
        refine cd (by exact rfl) (fun h3 => ?_) (fun h3 => ?_)
        · skip
          have hjn : k + z.k2 < n := by simp only [decide_eq_true_eq] at h3; omega
          obtain ⟨y, hy⟩ : ∃ y, xs[k + z.k2]? = some y := ⟨_, List.getElem?_eq_getElem (by omega)⟩
          obtain ⟨q, hq⟩ : ∃ q, xs[k + z.k2 - 1]? = some q := ⟨_, List.getElem?_eq_getElem (by omega)⟩
          have hym := List.mem_of_getElem? hy
          have hqm := List.mem_of_getElem? hq
          have hyz : z.zs[k + z.k2]? = some y := by rw [hzo.dr _ (by omega)]; exact hy
          have hqz : z.zs[k + z.k2 - 1]? = some q := by rw [hzo.dr _ (by omega)]; exact hq
          have hye := from_at (k0 := k) hzl hyz
          have hqe : (((encX z.zs).drop k).take (n - k))[((z.k2 : Int) - 1).toNat]? = some q.cells := by
            rw [show ((z.k2 : Int) - 1).toNat = z.k2 - 1 by omega]
            exact from_at (k0 := k) hzl (by rw [show k + (z.k2 - 1) = k + z.k2 - 1 by omega]; exact hqz)
          refine skp (h := ?_)
          refine q_seq (h := ?_)
          refine sq (h := ?_)
          refine bk (h := ?_)
          refine sq (h := ?_)
          refine rgD (by kernel_rfl) [(4194304, .own A c 44 5 n (encX z.zs))] (by repeat (first | exact HS.nil | (apply HS.keep; (repeat (first | exact At.here | apply At.there))) | (apply HS.ro; (repeat (first | exact Rds.ro | exact Rds.own | apply Rds.there))))) (h := ?_)
          refine tk 0 (hy := mv) (h := ?_)
          refine tk 1 (hy := mv) (h := ?_)
          refine tk 2 (hy := mv) (h := ?_)
          refine tk 3 (hy := ix (A := if c = k then A else A.map (·.add (k * 5))) (m := n - k) (hr := Rds.any fun w hw => rd_from hroom.1 (by omega) hw)) (h := ?_)
          refine tk 4 (hy := ldEA (A := if c = k then A else A.map (·.add (k * 5))) (hr := Rds.any fun w hw => rd_from hroom.1 (by omega) hw) (hk := hye)) (h := ?_)
          refine tk 5 (hy := mv) (h := ?_)
          refine tk 6 (hy := mv) (h := ?_)
          refine tk 7 (hy := subI) (h := ?_)
          refine tk 8 (hy := ix (A := if c = k then A else A.map (·.add (k * 5))) (m := n - k) (hr := Rds.any fun w hw => rd_from hroom.1 (by omega) hw)) (h := ?_)
          refine tk 9 (hy := ldEA (A := if c = k then A else A.map (·.add (k * 5))) (hr := Rds.any fun w hw => rd_from hroom.1 (by omega) hw) (hk := hqe)) (h := ?_)
          refine one 10 (h := ?_)
          refine clfT inferInstance (fi := []) (cap := [.pointer (some ⟨b, 0, none⟩)]) (by exact rfl) (by repeat (first | exact Evs.nil | (apply Evs.cons; exact rfl))) (T_Boards2 E y q b T (hE y hym) (hE q hqm) (hS y hym) (hS q hqm)) rfl (by repeat (first | exact Spl.nil | (apply Spl.cons; (repeat (first | exact At.here | apply At.there))))) (h := fun _ _ => ?_)
          refine WL.subL (SubL.cons (.there (.there .here)) (SubL.refl _)) ?_
          refine nx (h := ?_)
          refine tk 11 (hy := notB) (h := ?_)
          refine dn (h := ?_)
          refine q_seq (h := ?_)
          refine cd (by exact rfl) (fun h4 => ?_) (fun h4 => ?_)
          · skip
            have hyq : ¬ y.b = q.b := by
              have h9 : (!decide (y.b = q.b)) = true := h4
              simpa using h9
            have hnz := CP2.keep hzo hy hq hyq
            refine sq (h := ?_)
            refine rg (h := ?_)
            refine WL.y (hy := mv) (h := ?_)
            refine WL.y (hy := mv) (h := ?_)
            refine WL.y (hy := mv) (h := ?_)
            refine WL.y (hy := mv) (h := ?_)
            refine WL.y (hy := ix (A := if c = k then A else A.map (·.add (k * 5))) (m := n - k) (hr := Rds.any fun w hw => rd_from hroom.1 (by omega) hw)) (h := ?_)
            refine WL.y (hy := ldEA (A := if c = k then A else A.map (·.add (k * 5))) (hr := Rds.any fun w hw => rd_from hroom.1 (by omega) hw) (hk := hye)) (h := ?_)
            refine WL.y (hy := ix (A := A) (m := n)) (h := ?_)
            refine stEW (k := z.k) (vs := y.cells) (h := ?_)
            rw [encX_set]
            refine nl (h := ?_)
            refine q_seq (h := ?_)
            refine rg (h := ?_)
            refine WL.y (hy := mv) (h := ?_)
            refine WL.y (hy := addI) (h := ?_)
            refine WL.y (hy := asg) (h := ?_)
            refine WL.cut (by repeat (first | exact Cut.nil | apply Cut.hit | apply Cut.miss (by exact rfl))) ?_
            refine nl (h := ?_)
            refine q_blk_norm (h := ?_)
            refine q_seq (h := ?_)
            refine rg (h := ?_)
            refine WL.y (hy := mv) (h := ?_)
            refine WL.y (hy := addI) (h := ?_)
            refine WL.y (hy := asg) (h := ?_)
            refine WL.cut (by repeat (first | exact Cut.nil | apply Cut.hit | apply Cut.miss (by exact rfl))) ?_
            refine nl (h := ?_)
            first
              | refine rn (x := z) ⟨z.k + 1, z.k2 + 1, z.zs.set z.k y⟩ hnz (by dsimp only; omega) (by repeat (first | exact trivial | refine ⟨rfl, ?_⟩)) (by repeat (first | exact SubL.nil | (apply SubL.cons; (repeat (first | exact At.here | apply At.there))) | exact SubL.refl _ | apply SubL.skip))
              | refine rn (x := z) ⟨z.k, z.k2 + 1, z.zs⟩ hnz (by dsimp only; omega) (by repeat (first | exact trivial | refine ⟨rfl, ?_⟩)) (by repeat (first | exact SubL.nil | (apply SubL.cons; (repeat (first | exact At.here | apply At.there))) | exact SubL.refl _ | apply SubL.skip))
          · skip
            have hyq : y.b = q.b := by
              have h9 : (!decide (y.b = q.b)) = false := h4
              simpa using h9
            have hnz := CP2.skip hzo hy hq hyq
            refine skp (h := ?_)
            refine q_blk_norm (h := ?_)
            refine q_seq (h := ?_)
            refine rg (h := ?_)
            refine WL.y (hy := mv) (h := ?_)
            refine WL.y (hy := addI) (h := ?_)
            refine WL.y (hy := asg) (h := ?_)
            refine WL.cut (by repeat (first | exact Cut.nil | apply Cut.hit | apply Cut.miss (by exact rfl))) ?_
            refine nl (h := ?_)
            first
              | refine rn (x := z) ⟨z.k + 1, z.k2 + 1, z.zs.set z.k y⟩ hnz (by dsimp only; omega) (by repeat (first | exact trivial | refine ⟨rfl, ?_⟩)) (by repeat (first | exact SubL.nil | (apply SubL.cons; (repeat (first | exact At.here | apply At.there))) | exact SubL.refl _ | apply SubL.skip))
              | refine rn (x := z) ⟨z.k, z.k2 + 1, z.zs⟩ hnz (by dsimp only; omega) (by repeat (first | exact trivial | refine ⟨rfl, ?_⟩)) (by repeat (first | exact SubL.nil | (apply SubL.cons; (repeat (first | exact At.here | apply At.there))) | exact SubL.refl _ | apply SubL.skip))
        · skip
          have hjn : k + z.k2 = xs.length := by simp only [decide_eq_false_iff_not] at h3; omega
          have hfin := CP2.fin hzo hjn
          refine et (h := ?_)
          refine q_then_exit (h := ?_)
          refine q_then_exit (h := ?_)
          refine q_blk_hit (h := ?_)
          refine q_seq (h := ?_)
          refine sq (h := ?_)
          refine rg (h := ?_)
          refine WL.y (hy := mv) (h := ?_)
          refine WL.y (hy := mv) (h := ?_)
          refine WL.y (hy := slV (A := A) (m := n) (cap := c) (lo' := z.k) (hi' := n) (hh := .inl ⟨rfl, rfl⟩) (hl := .inr ⟨_, _, _, rfl, rfl, by omega, by omega, by omega⟩)) (h := ?_)
          refine clrS (lo := z.k) (hlo := by omega) (h := fun es' hes' => ?_)
          refine nl (h := ?_)
          refine q_seq (h := ?_)
          refine sq (h := ?_)
          refine WC.shrink .here (m := z.k) (by omega) ?_
          refine rg (h := ?_)
          refine WL.y (hy := mv) (h := ?_)
          refine WL.y (hy := mv) (h := ?_)
          refine WL.y (hy := slP (A := A) (m := n) (cap := c) (hi' := z.k) (hc := by omega)) (h := ?_)
          refine WL.y (hy := asg) (h := ?_)
          refine nl (h := ?_)
          refine q_seq (h := ?_)
          refine rtn (h := ?_)
          refine q_blk_ret (h := ?_)
          refine q_then_ret (h := ?_)
          refine q_then_ret (h := ?_)
          refine q_blk_ret (h := ?_)
          refine q_then_ret (h := ?_)
          refine q_ret (hR := ?_)
          have hlk : (cptX xs).length = z.k := by rw [hfin, List.length_take]; omega
          rw [hes', encX_take, ← hfin]
          exact fun w hS => ⟨(), trivial, by rw [hlk]; rfl, by rw [hlk]; exact hS.sub (by repeat (first | exact SubL.nil | (apply SubL.cons; (repeat (first | exact At.here | apply At.there))) | exact SubL.refl _ | apply SubL.skip))⟩
      · skip
        have hxp : ¬ x.b = p.b := of_decide_eq_false h2
        have hnx := pf_step hk1 hkp hx hp hxp
        refine skp (h := ?_)
        refine q_blk_norm (h := ?_)
        refine q_seq (h := ?_)
        refine rg (h := ?_)
        refine WL.y (hy := mv) (h := ?_)
        refine WL.y (hy := addI) (h := ?_)
        refine WL.y (hy := asg) (h := ?_)
        refine WL.cut (by repeat (first | exact Cut.nil | apply Cut.hit | apply Cut.miss (by exact rfl))) ?_
        refine nl (h := ?_)
        refine rn (x := k) (k + 1) ⟨by omega, by omega, hnx⟩ (by omega) (by repeat (first | exact trivial | refine ⟨rfl, ?_⟩)) (by repeat (first | exact SubL.nil | (apply SubL.cons; (repeat (first | exact At.here | apply At.there))) | exact SubL.refl _ | apply SubL.skip))
    · skip
      have hkn : k = xs.length := by simp only [decide_eq_false_iff_not] at h1; omega
      have hE1 : cptX xs = xs := pf_end (hkn ▸ hkp)
      refine et (h := ?_)
      refine q_then_exit (h := ?_)
      refine q_then_exit (h := ?_)
      refine q_blk_hit (h := ?_)
      refine q_seq (h := ?_)
      refine sq (h := ?_)
      refine rg (h := ?_)
      refine WL.y (hy := mv) (h := ?_)
      refine WL.y (hy := asg) (h := ?_)
      refine nl (h := ?_)
      refine q_seq (h := ?_)
      refine rtn (h := ?_)
      refine q_ret (hR := ?_)
      exact fun w hS => ⟨(), trivial, by rw [hE1, hl]; rfl, by rw [hE1, hl]; exact hS.sub (by repeat (first | exact SubL.nil | (apply SubL.cons; (repeat (first | exact At.here | apply At.there))) | exact SubL.refl _ | apply SubL.skip))⟩
end Go.Proofs.Ytncoimjgjpcipaa

namespace Go.Proofs.Ytncoimjgjpcipaa
open Go Go.RowKit

def rowX (x : BA) : Row := ⟨x.A, 2, x.b.st.length, encP x.b.st⟩
theorem St.manySub {w0 w : World} {M : List Ent} {rs rs' : List Row} (h : St w0 w (manyE true rs :: M)) (hs : ∀ r ∈ rs', r ∈ rs) : St w0 w (manyE true rs' :: M) := by
  have hp := List.pairwise_cons.1 h.sep
  have hok := h.ok (manyE true rs) (by simp)
  refine ⟨h.below, fun x hx => ?_, fun x hx hf k hk => ?_, List.pairwise_cons.2 ⟨fun x hx ho k hk hk' => ?_, hp.2⟩⟩
  · rcases List.mem_cons.1 hx with rfl | hx
    · exact fun r hr => hok r (hs r hr)
    · exact h.ok x (by simp [hx])
  · rcases List.mem_cons.1 hx with rfl | hx
    · obtain ⟨r, hr, hf2⟩ := hk
      exact h.new (manyE true rs) (by simp) rfl k ⟨r, hs r hr, hf2⟩
    · exact h.new x (by simp [hx]) hf k hk
  · obtain ⟨r, hr, hf2⟩ := hk
    exact hp.1 x hx (ho.imp (fun h => h) id) k ⟨r, hs r hr, hf2⟩ hk'
theorem many_ok {zs : List BA} {x : BA} (hx : x ∈ zs) : ∀ w, (manyE true (zs.map rowX)).ok w → Rd w x.A 2 x.b.st.length (encP x.b.st) := fun w hw => hw (rowX x) (List.mem_map.2 ⟨x, hx, rfl⟩)
theorem brd_sm {f : Fmt} {s : Spot} {K : Int} (h : SpBd f s K) (hf : f.Ok) (hK : K ≤ 100000) : BrdSm (brdOf s) :=
  ⟨fun p hp => by have := h.st p hp; exact ⟨by omega, by omega⟩, ⟨by have := h.g; show 0 ≤ s.g.1 ∧ s.g.1 ≤ 100000; omega, by have := h.g; show 0 ≤ s.g.2 ∧ s.g.2 ≤ 100000; omega⟩, ⟨by have := h.p; show 0 ≤ s.p.1 ∧ s.p.1 ≤ 100000; omega, by have := h.p; show 0 ≤ s.p.2 ∧ s.p.2 ≤ 100000; omega⟩, by have := h.len hf; show s.st.length ≤ 100000; omega⟩
structure BDR where
  (zs : List BA) (A : Option Addr) (c : Nat)
def bdS (o : Option BDR) : Value := match o with
  | none => .slice none 0 0
  | some s => .slice s.A s.zs.length s.c
def bdV (e : Int) (o : Option BDR) : Value := .tuple #[bdS o, .int .i64 e]
def bdE (T : TypeId) (o : Option BDR) : List Ent := match o with
  | none => []
  | some s => [.own s.A s.c T 5 s.zs.length (encX s.zs), manyE true (s.zs.map rowX)]
def BdOk (f : Fmt) (cf : Int) (xs : List Nt) (o : Option BDR) : Prop := match o with
  | none => posE f cf xs ≠ 0
  | some s => posE f cf xs = 0 ∧ s.zs.map (·.b) = boardsC (keyC (crowdC f cf xs)) ∧ (∀ x ∈ s.zs, BrdSm x.b) ∧ s.zs.length ≤ 4194304
def SrtX (zs bs : List BA) : Prop := zs.Perm bs ∧ (zs.map (·.b)).Pairwise fun a b => cmpB a b ≤ 0
def SortOk (P : Program) (T : TypeId) (fs g : FuncId) : Prop := ∀ (E : Ent) (bs : List BA) (A : Option Addr) (n c : Nat), bs.length = n → 0 < n → n ≤ 4194304 → (∀ x ∈ bs, ∀ w, E.ok w → Rd w x.A 2 x.b.st.length (encP x.b.st)) → (∀ x ∈ bs, BrdSm x.b) →
  Tr P fs [.slice A n c, .func (.func g) #[] #[]] [.own A c T 5 n (encX bs), E] (fun zs : List BA => SrtX zs bs) (fun _ => .tuple #[]) (fun zs => [.own A c T 5 n (encX zs), E])
theorem kpX_len : ∀ (l : List BA) (p : BA), (kpX p l).length ≤ l.length
  | [], _ => Nat.le_refl _
  | x :: l, p => by
    rw [kpX]
    by_cases e : x.b = p.b
    · rw [if_pos e]; exact Nat.le_trans (kpX_len l x) (Nat.le_succ _)
    · rw [if_neg e]; exact Nat.succ_le_succ (kpX_len l x)
theorem cptX_len (l : List BA) : (cptX l).length ≤ l.length := by
  cases l with
  | nil => exact Nat.le_refl _
  | cons x l => exact Nat.succ_le_succ (kpX_len l x)
theorem fin_boards {w0 w : World} {bs zs : List BA} {e : Ent} (h : St w0 w [manyE true (bs.map rowX), e]) (hs : ∀ x ∈ zs, x ∈ bs) : St w0 w [e, manyE true (zs.map rowX)] := by
  have h2 := h.manySub (rs' := zs.map rowX) fun r hr => by
    obtain ⟨x, hx, rfl⟩ := List.mem_map.1 hr
    exact List.mem_map.2 ⟨x, hs x hx, rfl⟩
  exact h2.sub (.cons (.there .here) (.cons .here .nil))
section rules
variable {F : Fence} {P : Program} {ops : Array Oper} {Q : Exit → Act → World → Prop} {rest : List Oper} {n : Nat} {D : List Deferred} {l : Env} {w0 : World} {L M : List Ent}
theorem WL.manyX {bs : List BA} (p : Option Addr × Nat) (x : BA) (hA : x.A = p.1) (hc : x.c = p.2) {T : TypeId} (ha : At L (.own p.1 p.2 T 2 x.b.st.length (encP x.b.st)) M) {M' : List Ent} (hb : At M (manyE true (bs.map rowX)) M') (h : WL F P ops Q rest n D l w0 (manyE true ((bs ++ [x]).map rowX) :: M')) : WL F P ops Q rest n D l w0 L := fun hF a w hfr hst => h hF a w hfr (by
  have := (hst.sub (L' := .own p.1 p.2 T 2 x.b.st.length (encP x.b.st) :: manyE true (bs.map rowX) :: M') (.cons ha (.cons hb (SubL.refl _)))).manyAdd
  rw [List.map_append]
  show St w0 w (manyE true (bs.map rowX ++ [⟨x.A, 2, x.b.st.length, encP x.b.st⟩]) :: M')
  rw [hA]; exact this)
end rules
structure BZ8 where
  (dn ts : List Nd) (tk : List KV) (o : Option KV) (bs : List BA) (A : Option Addr) (c : Nat)
theorem C_card_Boards' (hsort : SortOk Try.prog 44 40 36) (f : Fmt) (cf : Int) (xs : List Nt) (A : Option Addr) (n c : Nat) (w : World) (h : Rd w A 4 n (encN xs)) (hn : n ≤ 9223372036854775807) (hsm : chkC f cf xs = 0 → mostS xs ≤ 400) (hbig : (crowdC f cf xs).length ≤ 4194304) :
    CR Try.prog 14 [.agg (cardC f cf A n c).toArray] w (BdOk f cf xs) (bdV (posE f cf xs)) (bdE 44) := by
  refine ⟨en Try.func14 Try.ntmps14 ((St.init w).share (e := .ro A 4 n (encN xs)) h rfl rfl rfl) (h := fun F => ?_)⟩
  refine sq (h := ?_)
  refine rg (h := ?_)
  refine bxA (h := fun b0 => ?_)
  refine WL.y (hy := asg) (h := ?_)
  refine WL.cut (by repeat (first | exact Cut.nil | apply Cut.hit | apply Cut.miss (by exact rfl))) ?_
  refine WL.y (hy := asg) (h := ?_)
  refine WL.cut (by repeat (first | exact Cut.nil | apply Cut.hit | apply Cut.miss (by exact rfl))) ?_
  refine nl (h := ?_)
  refine q_seq (h := ?_)
  refine sq (h := ?_)
  refine rg (h := ?_)
  refine WL.y (hy := (by first | exact ldA | exact ldEA)) (h := ?_)
  refine cl (hfresh := fun o => by cases o <;> rfl) (hc := fun w hS => C_card_possible f cf xs A n c w (hS.get (by repeat (first | exact Rds.ro | exact Rds.own | apply Rds.there))) hn hsm) (h := fun o ho => ?_)
  refine WL.y (hy := mv) (h := ?_)
  refine WL.y (hy := ex) (h := ?_)
  refine WL.y (hy := ex) (h := ?_)
  refine WL.y (hy := asg) (h := ?_)
  refine WL.y (hy := asg) (h := ?_)
  refine nl (h := ?_)
  refine q_seq (h := ?_)
  refine sq (h := ?_)
  refine sq (h := ?_)
  refine rg (h := ?_)
  refine WL.y (hy := mv) (h := ?_)
  refine WL.y (hy := neq) (h := ?_)
  refine nl (h := ?_)
  refine q_seq (h := ?_)
  refine cd (by exact rfl) (fun h0 => ?_) (fun h0 => ?_)
  · skip
    have he : posE f cf xs ≠ 0 := by simpa using h0
    obtain rfl := all_none ho he
    refine sq (h := ?_)
    refine rg (h := ?_)
    refine WL.y (hy := mv) (h := ?_)
    refine WL.y (hy := asg) (h := ?_)
    refine WL.cut (by repeat (first | exact Cut.nil | apply Cut.hit | apply Cut.miss (by exact rfl))) ?_
    refine WL.y (hy := asg) (h := ?_)
    refine WL.cut (by repeat (first | exact Cut.nil | apply Cut.hit | apply Cut.miss (by exact rfl))) ?_
    refine nl (h := ?_)
    refine q_seq (h := ?_)
    refine rtn (h := ?_)
    refine q_then_ret (h := ?_)
    refine q_ret (hR := ?_)
    exact fun w hS => ⟨none, he, rfl, hS.sub .nil⟩
  · skip
    have he : posE f cf xs = 0 := by simpa using h0
    obtain ⟨q, rfl, hq, hqn, hck⟩ := all_some ho he
    obtain ⟨hc0, hf, _, hl30, _, _⟩ := chk_facts hck
    have hms := hsm hck
    have hqe := hq.eqC
    have hqok := hq.ok
    rw [List.take_length] at hqe hqok
    have hnl : q.ns.length ≤ 4194304 := by
      have h9 := hqe.length_eq
      unfold toC at h9
      rw [List.length_map] at h9
      omega
    refine WC.subL (L' := [poolE 103 q.N q.mn none, roM q.b q.es q.c]) (by repeat (first | exact SubL.nil | (apply SubL.cons; (repeat (first | exact At.here | apply At.there))) | exact SubL.refl _ | apply SubL.skip)) ?_
    refine skp (h := ?_)
    refine q_seq (h := ?_)
    refine sq (h := ?_)
    refine rg (h := ?_)
    refine WL.y (hy := asg) (h := ?_)
    refine WL.cut (by repeat (first | exact Cut.nil | apply Cut.hit | apply Cut.miss (by exact rfl))) ?_
    refine nl (h := ?_)
    refine q_seq (h := ?_)
    refine sq (h := ?_)
    refine sq (h := ?_)
    refine WC.nilOwn 44 5 (h := ?_)
    refine WC.many0 (h := ?_)
    refine rg (h := ?_)
    refine WL.y (hy := mv) (h := ?_)
    refine rngM (b := q.b) (es := q.es) (c := q.c) (h := fun r1 => ?_)
    rw [cr_kv hq.cr]
    refine nl (h := ?_)
    refine q_seq (h := ?_)
    refine bk (h := ?_)
    refine lp (X := BZ8) (I := fun z => (z.dn ++ z.ts).Perm q.ns ∧ z.tk.Perm (z.ts.map ndKV) ∧ z.bs.map (·.b) = z.dn.map (fun y => brdOf y.s) ∧ ∀ x ∈ z.bs, BrdSm x.b) (le := fun z => [(6, .slice z.A z.bs.length z.c), (18, .pointer (some ⟨r1, 0, none⟩))]) (Le := fun z => [itE r1 q.b q.es q.c z.tk z.o, .own z.A z.c 44 5 z.bs.length (encX z.bs), manyE true (z.bs.map rowX), poolE 103 q.N q.mn none, roM q.b q.es q.c]) (μ := fun z => z.ts.length) ⟨[], q.ns, q.ns.map ndKV, none, [], none, 0⟩ ⟨.refl _, .refl _, rfl, fun x hx => (by cases hx)⟩ (by repeat (first | exact trivial | refine ⟨rfl, ?_⟩)) (by repeat (first | exact SubL.nil | (apply SubL.cons; (repeat (first | exact At.here | apply At.there))) | exact SubL.refl _ | apply SubL.skip)) (fun z hz => ?_)
    obtain ⟨hzd, hzt, hzb, hzs⟩ := hz
    refine sq (h := ?_)
    refine rg (h := ?_)
    refine nxtM (b := q.b) (es := q.es) (c := q.c) (hs := hq.cr.s) (h := fun o2 tk2 ho2 => ?_)
    refine WL.y (hy := exN) (h := ?_)
    refine nl (h := ?_)
    refine q_seq (h := ?_)
    refine sq (h := ?_)
    refine cd (by exact rfl) (fun h1 => ?_) (fun h1 => ?_)
    · skip
      obtain ⟨kv, rfl⟩ := Option.isSome_iff_exists.1 h1
      rcases todo_nd hzt ho2 with ⟨e, _⟩ | ⟨y, ts', e, hts, htk⟩
      · cases e
      obtain rfl := Option.some.inj e
      have hyn : y ∈ q.ns := hzd.subset (List.mem_append.2 (.inr (hts.symm.subset List.mem_cons_self)))
      have hyo := hqok.ok y (hq.cr.sub y hyn)
      have hlen9 : z.bs.length ≤ 4194304 := by
        have h8 := congrArg List.length hzb
        have h9 := hzd.length_eq
        rw [List.length_map, List.length_map] at h8
        rw [List.length_append] at h9
        omega
      refine skp (h := ?_)
      refine q_seq (h := ?_)
      refine bk (h := ?_)
      refine sq (h := ?_)
      refine rg (h := ?_)
      refine WL.y (hy := entM (b := q.b) (es := q.es) (c := q.c) (hs := hq.cr.s)) (h := ?_)
      refine WL.y (hy := ex) (h := ?_)
      refine al (h := fun b1 => ?_)
      first | refine stA (h := ?_) | refine stEA (h := ?_)
      refine nl (h := ?_)
      refine q_seq (h := ?_)
      refine rg (h := ?_)
      refine WL.y (hy := mv) (h := ?_)
      refine WL.y (hy := (by first | exact ldA | exact ldEA)) (h := ?_)
      refine cl (hc := fun w hS => C_spot_board y.s (hyo.len hf) w) (h := fun p1 _ => ?_)
      refine bs (h := fun b2 => ?_)
      refine ap (es := encX z.bs) (m := z.bs.length) (A := z.A) (c := z.c) (h := fun A1 c1 => ?_)
      refine WL.y (hy := asg) (h := ?_)
      refine WL.cut (by repeat (first | exact Cut.nil | apply Cut.hit | apply Cut.miss (by exact rfl))) ?_
      refine WL.manyX p1 ⟨brdOf y.s, p1.1, p1.2⟩ rfl rfl (by repeat (first | exact At.here | apply At.there)) (by repeat (first | exact At.here | apply At.there)) ?_
      refine nl (h := ?_)
      refine q_blk_norm (h := ?_)
      refine rn (x := z) ⟨z.dn ++ [y], ts', tk2, some (ndKV y), z.bs ++ [⟨brdOf y.s, p1.1, p1.2⟩], A1, c1⟩ ⟨by rw [List.append_assoc]; exact ((List.Perm.append_left z.dn hts.symm)).trans hzd, htk, by rw [List.map_append, List.map_append, hzb]; rfl, fun x hx => by
          rcases List.mem_append.1 hx with h9 | h9
          · exact hzs x h9
          · rw [List.mem_singleton.1 h9]; exact brd_sm (hyo.bd hf) hf (by omega)⟩ (by have := hts.length_eq; rw [List.length_cons] at this; dsimp only; omega) (by rw [List.length_append]; exact (by repeat (first | exact trivial | refine ⟨rfl, ?_⟩))) (by rw [List.length_append, List.map_append, show encX (z.bs ++ [⟨brdOf y.s, p1.1, p1.2⟩]) = encX z.bs ++ [(⟨brdOf y.s, p1.1, p1.2⟩ : BA).cells] from List.map_append]; exact (by repeat (first | exact SubL.nil | (apply SubL.cons; (repeat (first | exact At.here | apply At.there))) | exact SubL.refl _ | apply SubL.skip)))
    · skip
      have ho3 : o2 = none := by simpa using h1
      have hts : z.ts = [] := by
        rcases todo_nd hzt ho2 with ⟨_, h9, _⟩ | ⟨y, ts', e, _⟩
        · exact h9
        · rw [ho3] at e; cases e
      rw [hts, List.append_nil] at hzd
      have hlen9 : z.bs.length = q.ns.length := by
        have h8 := congrArg List.length hzb
        have h9 := hzd.length_eq
        rw [List.length_map, List.length_map] at h8
        omega
      have hpos : 0 < q.ns.length := List.length_pos_iff.2 hqn
      refine et (h := ?_)
      refine q_then_exit (h := ?_)
      refine q_then_exit (h := ?_)
      refine q_blk_hit (h := ?_)
      refine q_seq (h := ?_)
      refine sq (h := ?_)
      refine rg (h := ?_)
      refine al (h := fun b3 => ?_)
      first | refine st (h := ?_) | refine stE (h := ?_)
      refine nl (h := ?_)
      refine q_seq (h := ?_)
      refine sq (h := ?_)
      refine rg (h := ?_)
      refine WL.y (hy := mv) (h := ?_)
      refine WL.y (hy := (by first | exact ld | exact ldE)) (h := ?_)
      refine clT (hc := hsort (manyE true (z.bs.map rowX)) z.bs z.A z.bs.length z.c rfl (by omega) (by omega) (fun x hx => many_ok hx) hzs) (h := fun zs hzs2 => ?_)
      have hzl := hzs2.1.length_eq
      refine nl (h := ?_)
      refine q_seq (h := ?_)
      refine sq (h := ?_)
      refine rg (h := ?_)
      refine WL.y (hy := mv) (h := ?_)
      refine WL.y (hy := mkf) (h := ?_)
      refine clT (hc := T_Compact (manyE true (z.bs.map rowX)) zs z.A z.bs.length z.c _ _ hzl (by omega) (fun x hx => many_ok (hzs2.1.subset hx)) (fun x hx => hzs x (hzs2.1.subset hx))) (h := fun _ _ => ?_)
      refine WL.y (hy := asg) (h := ?_)
      refine WL.cut (by repeat (first | exact Cut.nil | apply Cut.hit | apply Cut.miss (by exact rfl))) ?_
      refine WL.y (hy := asg) (h := ?_)
      refine WL.cut (by repeat (first | exact Cut.nil | apply Cut.hit | apply Cut.miss (by exact rfl))) ?_
      refine nl (h := ?_)
      refine q_seq (h := ?_)
      refine rtn (h := ?_)
      refine q_ret (hR := ?_)
      rw [he]
      have hB : (cptX zs).map (·.b) = boardsC (keyC (crowdC f cf xs)) := by
        rw [cptX_b]
        refine cpt_boards hzs2.2 fun b => ?_
        rw [((hzs2.1.map _).mem_iff), hzb]
        constructor
        · intro hb
          obtain ⟨y, hy, rfl⟩ := List.mem_map.1 hb
          exact ⟨y.s, hq.keys (hzd.subset hy), rfl⟩
        · rintro ⟨s, hs, rfl⟩
          have h8 : s ∈ keyC (toC q.mn q.ns) := (hqe.map _).symm.subset hs
          rw [toC_keys] at h8
          obtain ⟨y, hy, rfl⟩ := List.mem_map.1 h8
          exact List.mem_map.2 ⟨y, hzd.symm.subset hy, rfl⟩
      have hL : (cptX zs).length ≤ 4194304 := by
        have h1 : (cptX zs).length ≤ zs.length := cptX_len zs
        omega
      exact fun w hS => ⟨some ⟨cptX zs, z.A, z.c⟩, ⟨he, hB, fun x hx => hzs x (hzs2.1.subset (cptX_mem hx)), hL⟩, rfl, fin_boards (hS.sub (L' := [manyE true (z.bs.map rowX), .own z.A z.c 44 5 (cptX zs).length (encX (cptX zs))]) (by repeat (first | exact SubL.nil | (apply SubL.cons; (repeat (first | exact At.here | apply At.there))) | exact SubL.refl _ | apply SubL.skip))) (fun x hx => hzs2.1.subset (cptX_mem hx))⟩
end Go.Proofs.Ytncoimjgjpcipaa

namespace Go.Proofs.Ytncoimjgjpcipaa
open Go Go.RowKit Go.Sort

theorem blw_grow {w w' : World} (h : Blw w.heap.size w w') : ∃ q os, w' = grow (w.drewN q) os := by
  refine ⟨w'.drawn - w.drawn, w'.heap.extract w.heap.size w'.heap.size, ?_⟩
  have hd := h.dr
  have hh : w'.heap = w.heap ++ w'.heap.extract w.heap.size w'.heap.size := by
    refine Array.ext_getElem? fun i => ?_
    by_cases hi : i < w.heap.size
    · rw [h.b.block i hi, Array.getElem?_append_left hi]
    · rw [Array.getElem?_append_right (by omega), Array.getElem?_extract]
      have hs := h.b.size
      by_cases h2 : i < w'.heap.size
      · rw [if_pos (by omega)]; congr 1; omega
      · rw [if_neg (by omega), Array.getElem?_eq_none (by omega)]
  obtain ⟨h1, h2, h3, h4, h5⟩ := w'
  simp only [grow, World.drewN, World.mk.injEq]
  exact ⟨hh, h.b.tape, by dsimp only at hd ⊢; omega, h.b.os, h.b.output⟩
section
variable {k : Nat} {enc : Nat → List Value}
theorem flatK_toList (hk : ∀ i, (enc i).length = k) (d : Array Nat) : (flatK enc k d).toList = (d.toList.map enc).flatten := by
  have hs : ∀ c ∈ d.toList.map enc, c.length = k := fun c hc => by
    obtain ⟨i, _, rfl⟩ := List.mem_map.1 hc; exact hk i
  have hl : ((d.toList.map enc).flatten).length = d.size * k := by rw [flatten_len hs]; simp
  refine List.ext_getElem? fun t => ?_
  by_cases ht : t < d.size * k
  · have hk0 : 0 < k := Nat.pos_of_mul_pos_left (Nat.lt_of_le_of_lt (Nat.zero_le _) ht)
    have hq : t / k < d.size := (Nat.div_lt_iff_lt_mul hk0).2 ht
    have hm : t % k < k := Nat.mod_lt _ hk0
    have h1 : (d.toList.map enc)[t / k]? = some (enc d[t / k]!) := by
      rw [List.getElem?_map, List.getElem?_eq_getElem (by simpa using hq)]
      simp [getElem!_pos d (t / k) hq]
    have h2 : (enc d[t / k]!)[t % k]? = some ((enc d[t / k]!)[t % k]!) := by
      have : t % k < (enc d[t / k]!).length := by rw [hk]; exact hm
      rw [List.getElem?_eq_getElem this, getElem!_pos (enc d[t / k]!) (t % k) this]
    have h3 := flatten_get hs h1 h2
    rw [show t / k * k + t % k = t by rw [Nat.mul_comm]; exact Nat.div_add_mod t k] at h3
    rw [h3, ← get_flatK enc k d t ht, Array.getElem?_toList, getElem!_pos _ t (by rw [size_flatK]; exact ht), Array.getElem?_eq_getElem (by rw [size_flatK]; exact ht)]
  · rw [List.getElem?_eq_none (by rw [Array.length_toList, size_flatK]; omega), List.getElem?_eq_none (by rw [hl]; omega)]
theorem sortSt {w0 w : World} {M : List Ent} {g cap n : Nat} {T : TypeId} (hk : ∀ i, (enc i).length = k) (h1 : ∀ i, ∀ v ∈ enc i, v.oneCell' = true) (d : Array Nat) (hd : d.size = n) (hst : St w0 w (.own (some ⟨g, 0, none⟩) cap T k n (d.toList.map enc) :: M)) (hn : 0 < n) :
    HoldsK enc k w g 0 d ∧ g < w.heap.size ∧ ∀ (d' : Array Nat) (m : Nat) (os : Array Obj), d'.size = n → St w0 (sortWorldK enc k w g 0 m d' os) (.own (some ⟨g, 0, none⟩) cap T k n (d'.toList.map enc) :: M) := by
  obtain ⟨hown, hrd⟩ := hst.ok (.own (some ⟨g, 0, none⟩) cap T k n (d.toList.map enc)) (by simp)
  have hlt : g < w.heap.size := Ent.ok_lt (hst.ok (.own (some ⟨g, 0, none⟩) cap T k n (d.toList.map enc)) (by simp)) ⟨_, rfl, rfl⟩
  have hfl := flatK_toList hk d
  obtain ⟨hol, hor⟩ := hown
  rcases hor with ⟨hv, _⟩ | ⟨g', cap', cur, hv, hbase, hheap, h2, h3, h4, h5⟩
  · cases hv
  · injection hv with hv1 hv2 hv3
    injection hv1 with hv1
    injection hv1 with hv1
    subst hv1 hv3
    refine ⟨fun j hj => ?_, hlt, fun d' m os hd' => ?_⟩
    · rw [size_flatK, hd] at hj
      have hjc : j < cur.size := by rw [h4]; exact Nat.lt_of_lt_of_le hj (Nat.mul_le_mul_right _ h2)
      have hget : (flatK enc k d)[j]! = cur[j] := by
        have h6 : cur.toList[j]? = (flatK enc k d).toList[j]? := by
          rw [hfl, ← h5, List.getElem?_take, if_pos hj]
        rw [Array.getElem?_toList, Array.getElem?_toList, Array.getElem?_eq_getElem hjc, Array.getElem?_eq_getElem (by rw [size_flatK, hd]; exact hj)] at h6
        rw [getElem!_pos _ j (by rw [size_flatK, hd]; exact hj)]
        exact (Option.some.inj h6).symm
      rw [hget, Nat.zero_add]
      constructor
      · rw [cell_of_row w g j _ T (0, 0) hheap, Array.getElem?_eq_getElem hjc]; rfl
      · exact frozen_of_row w g j _ T hheap
    · have hfl' := flatK_toList hk d'
      have hheap' : (sortWorldK enc k w g 0 m d' os).heap[g]? = some (.cells (putCells id 0 (flatK enc k d') cur) T (0, 0)) := by
        unfold sortWorldK grow putRowK putRow
        dsimp only
        have hsz : g < (mapBlock (Sort.ahead w m) g (putCells id 0 (flatK enc k d'))).heap.size := by
          unfold mapBlock; simp [Sort.ahead]; exact hlt
        rw [Array.getElem?_append_left hsz]
        unfold mapBlock
        simp only [Array.getElem?_modify, if_pos]
        rw [show (Sort.ahead w m).heap = w.heap from rfl, hheap]
        rfl
      have hother : ∀ q, q < w.heap.size → q ≠ g → (sortWorldK enc k w g 0 m d' os).heap[q]? = w.heap[q]? := fun q hq hne => by
        unfold sortWorldK grow putRowK putRow
        dsimp only
        have hsz : q < (mapBlock (Sort.ahead w m) g (putCells id 0 (flatK enc k d'))).heap.size := by
          unfold mapBlock; simp [Sort.ahead]; exact hq
        rw [Array.getElem?_append_left hsz]
        unfold mapBlock
        simp only [Array.getElem?_modify]
        rw [if_neg (fun e => hne e.symm)]; rfl
      have hs : ∀ c ∈ d'.toList.map enc, c.length = k := fun c hc => by
        obtain ⟨i, _, rfl⟩ := List.mem_map.1 hc; exact hk i
      have ho : ∀ c ∈ d'.toList.map enc, ∀ v ∈ c, v.oneCell' = true := fun c hc v hv => by
        obtain ⟨i, _, rfl⟩ := List.mem_map.1 hc; exact h1 i v hv
      have hflen : (flatK enc k d').toList.length = n * k := by rw [Array.length_toList, size_flatK, hd']
      have hown' : (sortWorldK enc k w g 0 m d' os).ownsRow 0 T k (.slice (some ⟨g, 0, none⟩) n cap) n (d'.toList.map enc).flatten := by
        refine ⟨by rw [← hfl', hflen], .inr ⟨g, cap, _, rfl, hbase, hheap', h2, h3, by simp [putCells, h4], ?_⟩⟩
        rw [← hfl']
        refine List.ext_getElem? fun t => ?_
        rw [List.getElem?_take]
        by_cases ht : t < n * k
        · rw [if_pos ht, Array.getElem?_toList, Array.getElem?_toList]
          have htc : t < cur.size := by rw [h4]; exact Nat.lt_of_lt_of_le ht (Nat.mul_le_mul_right _ h2)
          have hts : t < (flatK enc k d').size := by rw [size_flatK, hd']; exact ht
          unfold putCells
          rw [Array.getElem?_mapIdx, Array.getElem?_eq_getElem htc, Option.map_some, if_pos ⟨Nat.zero_le _, by omega⟩, Array.getElem?_eq_getElem hts, Nat.sub_zero, getElem!_pos _ t hts]
          rfl
        · rw [if_neg ht, List.getElem?_eq_none (by rw [hflen]; omega)]
      refine hst.turn rfl (fun q hq hnf => hother q hq fun e => hnf ⟨_, rfl, e.symm⟩) rfl rfl rfl ?_ ⟨hown', rd_own hown' (by simp [hd']) hs ho⟩ (fun q hq => .inl hq) (by
        show w.drawn ≤ w.drawn + m
        omega)
      unfold sortWorldK grow putRowK putRow mapBlock
      simp [Sort.ahead]
end
end Go.Proofs.Ytncoimjgjpcipaa

namespace Go.Proofs.Ytncoimjgjpcipaa
open Go Go.Shelf
def sortB_ren : Go.Shelf.Ren := ⟨fun | 6 => 40 | 15 => 64 | 14 => 63 | 28 => 90 | 29 => 91 | 20 => 82 | 21 => 83 | 22 => 84 | 23 => 85 | 24 => 86 | 25 => 87 | 26 => 88 | 27 => 89 | 46 => 107 | 47 => 108 | 48 => 109 | 49 => 110 | 50 => 111 | 57 => 116 | n => n, fun | 22 => 33 | 24 => 44 | 25 => 94 | 3 => 3 | 39 => 131 | 0 => 0 | 53 => 159 | 55 => 161 | 4 => 4 | 46 => 152 | 45 => 151 | 50 => 156 | 5 => 5 | 9 => 9 | 66 => 174 | 70 => 178 | 76 => 182 | 77 => 170 | n => n, fun | n => n⟩
theorem sortB : Go.Proofs.SlLaysF0.n6 Try.prog sortB_ren := {
  mixed := by kernel_rfl
  f6 := ⟨Try.f40.name, by decide, Try.func40.trans (congrArg some (by kernel_rfl))⟩
  f14 := ⟨Try.f63.name, by decide, Try.func63.trans (congrArg some (by kernel_rfl))⟩
  f15 := Try.func64.trans (congrArg some (by kernel_rfl))
  f20 := ⟨Try.f82.name, by decide, Try.func82.trans (congrArg some (by kernel_rfl))⟩
  f21 := ⟨Try.f83.name, by decide, Try.func83.trans (congrArg some (by kernel_rfl))⟩
  f22 := ⟨Try.f84.name, by decide, Try.func84.trans (congrArg some (by kernel_rfl))⟩
  f23 := ⟨Try.f85.name, by decide, Try.func85.trans (congrArg some (by kernel_rfl))⟩
  f24 := ⟨Try.f86.name, by decide, Try.func86.trans (congrArg some (by kernel_rfl))⟩
  f25 := ⟨Try.f87.name, by decide, Try.func87.trans (congrArg some (by kernel_rfl))⟩
  f26 := ⟨Try.f88.name, by decide, Try.func88.trans (congrArg some (by kernel_rfl))⟩
  f27 := ⟨Try.f89.name, by decide, Try.func89.trans (congrArg some (by kernel_rfl))⟩
  f28 := Try.func90.trans (congrArg some (by kernel_rfl))
  f29 := Try.func91.trans (congrArg some (by kernel_rfl))
  f46 := ⟨Try.f107.name, by decide, Try.func107.trans (congrArg some (by kernel_rfl))⟩
  f47 := Try.func108.trans (congrArg some (by kernel_rfl))
  f48 := Try.func109.trans (congrArg some (by kernel_rfl))
  f49 := ⟨Try.f110.name, by decide, Try.func110.trans (congrArg some (by kernel_rfl))⟩
  f50 := ⟨Try.f111.name, by decide, Try.func111.trans (congrArg some (by kernel_rfl))⟩
  f57 := ⟨Try.f116.name, by decide, Try.func116.trans (congrArg some (by kernel_rfl))⟩
  t0 := Try.underlying0
  a0 := Try.isAgg0
  z0 := Try.sizeOf0
  v0 := Try.zeroValue0
  t3 := Try.underlying3
  a3 := Try.isAgg3
  z3 := Try.sizeOf3
  v3 := Try.zeroValue3
  t4 := Try.underlying4
  a4 := Try.isAgg4
  z4 := Try.sizeOf4
  v4 := Try.zeroValue4
  t5 := Try.underlying5
  a5 := Try.isAgg5
  z5 := Try.sizeOf5
  v5 := Try.zeroValue5
  t9 := Try.underlying9
  a9 := Try.isAgg9
  z9 := Try.sizeOf9
  v9 := Try.zeroValue9
  t22 := Try.underlying33
  a22 := Try.isAgg33
  z22 := Try.sizeOf33
  v22 := Try.zeroValue33
  t25 := Try.underlying94
  a25 := Try.isAgg94
  z25 := Try.sizeOf94
  v25 := Try.zeroValue94
  t39 := Try.underlying131
  a39 := Try.isAgg131
  z39 := Try.sizeOf131
  v39 := Try.zeroValue131
  t45 := Try.underlying151
  a45 := Try.isAgg151
  z45 := Try.sizeOf151
  v45 := Try.zeroValue151
  t46 := Try.underlying152
  a46 := Try.isAgg152
  z46 := Try.sizeOf152
  v46 := Try.zeroValue152
  t50 := Try.underlying156
  a50 := Try.isAgg156
  z50 := Try.sizeOf156
  v50 := Try.zeroValue156
  t53 := Try.underlying159
  a53 := Try.isAgg159
  z53 := Try.sizeOf159
  v53 := Try.zeroValue159
  t55 := Try.underlying161
  a55 := Try.isAgg161
  z55 := Try.sizeOf161
  v55 := Try.zeroValue161
  t66 := Try.underlying174
  a66 := Try.isAgg174
  z66 := Try.sizeOf174
  v66 := Try.zeroValue174
  t70 := Try.underlying178
  a70 := Try.isAgg178
  z70 := Try.sizeOf178
  v70 := Try.zeroValue178
  t76 := Try.underlying182
  a76 := Try.isAgg182
  z76 := Try.sizeOf182
  v76 := Try.zeroValue182
  t77 := Try.underlying170
  a77 := Try.isAgg170
  z77 := Try.sizeOf170
  v77 := Try.zeroValue170 }
end Go.Proofs.Ytncoimjgjpcipaa

namespace Go.Proofs.Ytncoimjgjpcipaa
open Go Go.RowKit Go.Sort

def atX (bs : List BA) (i : Nat) : BA := bs.getD i ⟨⟨[], (0, 0), (0, 0)⟩, none, 0⟩
theorem atX_all {bs : List BA} {p : BA → Prop} (h : ∀ x ∈ bs, p x) (h0 : p ⟨⟨[], (0, 0), (0, 0)⟩, none, 0⟩) (i : Nat) : p (atX bs i) := by
  unfold atX
  rw [List.getD_eq_getElem?_getD]
  cases hb : bs[i]? with
  | none => exact h0
  | some x => exact h x (List.mem_of_getElem? hb)
theorem atX_range (bs : List BA) : (List.range bs.length).map (atX bs) = bs := by
  refine List.ext_getElem? fun i => ?_
  rw [List.getElem?_map]
  by_cases h : i < bs.length
  · rw [List.getElem?_range h, Option.map_some, atX, List.getD_eq_getElem?_getD, List.getElem?_eq_getElem h]; rfl
  · rw [List.getElem?_eq_none (by simpa using h), List.getElem?_eq_none (by omega)]; rfl
abbrev cfX (bs : List BA) (i j : Nat) : Int := cmpB (atX bs i).b (atX bs j).b
theorem swoX (bs : List BA) : SWO (ltOf (cfX bs)) where
  irrefl i := by unfold ltOf; exact decide_eq_false (by rw [show cfX bs i i = 0 from cmpB_zero.2 rfl]; decide)
  trans i j k h1 h2 := by
    unfold ltOf at *
    exact decide_eq_true (cmpB_trans (of_decide_eq_true h1) (of_decide_eq_true h2))
  ntrans i j k h1 h2 := by
    unfold ltOf at *
    have n1 := of_decide_eq_false h1
    have n2 := of_decide_eq_false h2
    refine decide_eq_false fun h3 => ?_
    by_cases e1 : (atX bs i).b = (atX bs j).b
    · rw [show cfX bs i k = cfX bs j k by unfold cfX; rw [e1]] at h3; exact n2 h3
    · have h4 := cmpB_pos n1 e1
      exact n2 (cmpB_trans h4 h3)
theorem sort_ok : SortOk Try.prog 44 40 36 := by
  intro E bs A n c hl hn hn2 hE hS
  refine ⟨fun w0 w R hst => ?_⟩
  have hE0 : ∀ i w, E.ok w → Rd w (atX bs i).A 2 (atX bs i).b.st.length (encP (atX bs i).b.st) := fun i w hw => atX_all (bs := bs) (p := fun x => Rd w x.A 2 x.b.st.length (encP x.b.st)) (fun x hx => hE x hx w hw) (Rd.nil w none 2) i
  have hS0 : ∀ i, BrdSm (atX bs i).b := fun i => atX_all (bs := bs) (p := fun x => BrdSm x.b) hS ⟨fun p hp => (by cases hp), ⟨by decide, by decide⟩, ⟨by decide, by decide⟩, by decide⟩ i
  have henc : ((Array.range n).toList.map fun i => (atX bs i).cells) = encX bs := by
    rw [Array.toList_range, ← hl]
    show (List.range bs.length).map (BA.cells ∘ atX bs) = _
    rw [← List.map_map, atX_range]; rfl
  have hrd := (hst.ok (.own A c 44 5 n (encX bs)) (by simp)).2
  obtain ⟨ad, rfl⟩ := hrd.some_ hn
  obtain ⟨g, rfl⟩ : ∃ g, ad = ⟨g, 0, none⟩ := by
    have hown := (hst.ok (.own (some ad) c 44 5 n (encX bs)) (by simp)).1
    rcases hown.2 with ⟨hv, _⟩ | ⟨g, cap', cur, hv, _⟩
    · cases hv
    · injection hv with h1; injection h1 with h1; exact ⟨g, h1⟩
  have hst2 : St w0 w (.own (some ⟨g, 0, none⟩) c 44 5 n ((Array.range n).toList.map fun i => (atX bs i).cells) :: E :: R) := by rw [henc]; exact hst
  obtain ⟨hH, hlt, hfin⟩ := sortSt (enc := fun i => (atX bs i).cells) (fun i => rfl) (fun i v hv => by
    simp only [BA.cells, Brd.cells, List.mem_cons, List.mem_nil_iff, or_false] at hv
    rcases hv with rfl | rfl | rfl | rfl | rfl <;> rfl) (Array.range n) (by simp) hst2 hn
  have hcmp : CmpLays Try.prog 36 #[] (fun i => (atX bs i).cells) 5 (cfX bs) g 0 n w := fun m os dk hdk x y => by
    have hW := hfin dk m os hdk
    have hEW := hW.ok E (by simp)
    have hc := C_Boards1 (atX bs x).b (atX bs y).b (atX bs x).A (atX bs y).A (atX bs x).c (atX bs y).c (hS0 x) (hS0 y) _ (hE0 x _ hEW) (hE0 y _ hEW)
    exact Calls.mono hc.out fun e w' ⟨he, hs⟩ => ⟨he, blw_grow hs.below⟩
  have hcon := AnyQ.slices_SortFunc sortB 5 (fun w => run_isAgg (P := Try.prog) (t := 44) inferInstance w) (fun w => run_sizeOf (P := Try.prog) (t := 44) inferInstance w) (fun i => (atX bs i).cells) (fun i => rfl) (fun i v hv => by
    simp only [BA.cells, Brd.cells, List.mem_cons, List.mem_nil_iff, or_false] at hv
    rcases hv with rfl | rfl | rfl | rfl | rfl <;> rfl) (cfX bs) (swoX bs) 36 #[] g 0 c (Array.range n) w (run_callFunc inferInstance) (by simpa using hcmp) hH hlt (by simp; omega)
  simp only [Array.size_range] at hcon
  refine Calls.mono hcon fun e w' ⟨he, d', m, os, hp, hs, hw⟩ => ?_
  subst hw
  have hd' : d'.size = n := by have := hp.1; simpa using this
  have hperm : d'.toList.Perm (List.range n) := by
    have h1 := hp.2.2
    rw [show d'.extract 0 n = d' by rw [← hd']; simp, show (Array.range n).extract 0 n = Array.range n by simp, Array.toList_range] at h1
    exact h1
  refine ⟨d'.toList.map (atX bs), ⟨?_, ?_⟩, he, ?_⟩
  · have h1 := hperm.map (atX bs)
    rwa [← hl, atX_range] at h1
  · rw [List.map_map]
    refine List.pairwise_iff_getElem.2 fun i j hi hj hij => ?_
    simp only [List.length_map, Array.length_toList] at hi hj
    have h1 := hs i j (Nat.zero_le _) hij (by omega)
    unfold ltOf at h1
    have h2 := of_decide_eq_false h1
    rw [getElem!_pos d' i (by omega), getElem!_pos d' j (by omega)] at h2
    simp only [List.getElem_map, Function.comp, Array.getElem_toList]
    by_cases e : cmpB (atX bs d'[i]).b (atX bs d'[j]).b ≤ 0
    · exact e
    · exact absurd (cmpB_neg.2 (by omega)) h2
  · have h1 := hfin d' m os hd'
    rw [show encX (d'.toList.map (atX bs)) = d'.toList.map fun i => (atX bs i).cells by unfold encX; rw [List.map_map]; rfl]
    exact h1
theorem C_card_Boards (f : Fmt) (cf : Int) (xs : List Nt) (A : Option Addr) (n c : Nat) (w : World) (h : Rd w A 4 n (encN xs)) (hn : n ≤ 9223372036854775807) (hsm : chkC f cf xs = 0 → mostS xs ≤ 400) (hbig : (crowdC f cf xs).length ≤ 4194304) :
    CR Try.prog 14 [.agg (cardC f cf A n c).toArray] w (BdOk f cf xs) (bdV (posE f cf xs)) (bdE 44) := C_card_Boards' sort_ok f cf xs A n c w h hn hsm hbig
end Go.Proofs.Ytncoimjgjpcipaa

namespace Go.Proofs.Ytncoimjgjpcipaa
open Go Go.RowKit

theorem C_ref3_within (n lo hi : Int) (w : World) : C0 Try.prog 43 [.int .i64 n, .int .i64 lo, .int .i64 hi] w (.bool (wi n lo hi)) := by
  refine ⟨en Try.func43 Try.ntmps43 (St.init w) (h := fun F => ?_)⟩
  refine sq (h := ?_)
  refine rg (h := ?_)
  refine WL.y (hy := asg) (h := ?_)
  refine nl (h := ?_)
  refine q_seq (h := ?_)
  refine sq (h := ?_)
  refine rg (h := ?_)
  refine WL.y (hy := mv) (h := ?_)
  refine WL.y (hy := mv) (h := ?_)
  refine WL.y (hy := geq) (h := ?_)
  refine WL.y (hy := mv) (h := ?_)
  apply brAnd 4 10 14 (by exact rfl)
  · intro hb0
    refine un (h := ?_)
    refine WL.y (hy := mv) (h := ?_)
    refine un (h := ?_)
    refine WL.y (hy := mv) (h := ?_)
    refine un (h := ?_)
    refine WL.y (hy := leq) (h := ?_)
    refine WL.y (hy := (by first | exact pkT | exact pkF)) (h := ?_)
    exact mg (by repeat (first | exact trivial | refine ⟨rfl, ?_⟩ | refine ⟨by rw [hb0]; rfl, ?_⟩)) (by repeat (first | exact SubL.nil | (apply SubL.cons; (repeat (first | exact At.here | apply At.there))) | exact SubL.refl _ | apply SubL.skip))
  · intro hb0
    repeat (first | refine un (h := ?_) | refine sk (h := ?_) | refine WL.y (hy := pkF) (h := ?_) | refine WL.y (hy := pkT) (h := ?_))
    exact mg (by repeat (first | exact trivial | refine ⟨rfl, ?_⟩ | refine ⟨by rw [hb0]; rfl, ?_⟩)) (by repeat (first | exact SubL.nil | (apply SubL.cons; (repeat (first | exact At.here | apply At.there))) | exact SubL.refl _ | apply SubL.skip))
  refine WL.y (hy := asg) (h := ?_)
  refine nl (h := ?_)
  refine q_seq (h := ?_)
  refine rtn (h := ?_)
  refine q_ret (hR := ?_)
  exact fun w hS => ⟨rfl, hS.sub (by repeat (first | exact SubL.nil | (apply SubL.cons; (repeat (first | exact At.here | apply At.there))) | exact SubL.refl _ | apply SubL.skip))⟩
theorem mk_two {x : Nt} (h : x.kind = 2) : mkV x = (decide (x.side = 0) && wi x.pair.2 0 30 && wi x.pair.1 0 x.pair.2) := by
  rw [mkV, decide_eq_false (show ¬ x.kind = 1 by omega), decide_eq_true h, cond_false, cond_true, prV]
  rw [Bool.eq_iff_iff]
  simp only [Bool.and_eq_true, wi_iff, decide_eq_true_eq]
  omega
set_option maxRecDepth 100000 in
theorem C_ref3_IsMark (x : Nt) (w : World) : C0 Try.prog 16 [x.val] w (.bool (mkV x)) := by
  have zP : decide ([x.pair.1, x.pair.2] = [(0 : Int), 0]) = decide (x.pair = (0, 0)) := by rw [pair_eq2]; exact dec_pr x.pair (0, 0)
  refine ⟨en Try.func16 Try.ntmps16 (St.init w) (h := fun F => ?_)⟩
  refine sq (h := ?_)
  refine rg (h := ?_)
  refine bxA (h := fun b0 => ?_)
  refine WL.y (hy := asg) (h := ?_)
  refine nl (h := ?_)
  refine q_seq (h := ?_)
  refine sq (h := ?_)
  refine rg (h := ?_)
  refine WL.y (hy := (by first | exact fa | exact faE)) (h := ?_)
  refine WL.y (hy := (by first | exact fa | exact faE)) (h := ?_)
  refine WL.y (hy := (by first | exact ld | exact ldE)) (h := ?_)
  refine cl0 (hc := fun w hS => C_ref3_within ..) (h := ?_)
  refine WL.y (hy := mv) (h := ?_)
  apply brAnd 5 9 14 (by exact rfl)
  · intro hb0
    refine un (h := ?_)
    refine WL.y (hy := (by first | exact fa | exact faE)) (h := ?_)
    refine un (h := ?_)
    refine WL.y (hy := (by first | exact fa | exact faE)) (h := ?_)
    refine un (h := ?_)
    refine WL.y (hy := (by first | exact ld | exact ldE)) (h := ?_)
    refine un (h := ?_)
    refine cl0 (hc := fun w hS => C_ref3_within ..) (h := ?_)
    refine WL.y (hy := (by first | exact pkT | exact pkF)) (h := ?_)
    exact mg (by repeat (first | exact trivial | refine ⟨rfl, ?_⟩ | refine ⟨by rw [hb0]; rfl, ?_⟩)) (by repeat (first | exact SubL.nil | (apply SubL.cons; (repeat (first | exact At.here | apply At.there))) | exact SubL.refl _ | apply SubL.skip))
  · intro hb0
    repeat (first | refine un (h := ?_) | refine sk (h := ?_) | refine WL.y (hy := pkF) (h := ?_) | refine WL.y (hy := pkT) (h := ?_))
    exact mg (by repeat (first | exact trivial | refine ⟨rfl, ?_⟩ | refine ⟨by rw [hb0]; rfl, ?_⟩)) (by repeat (first | exact SubL.nil | (apply SubL.cons; (repeat (first | exact At.here | apply At.there))) | exact SubL.refl _ | apply SubL.skip))
  refine WL.y (hy := asg) (h := ?_)
  refine nl (h := ?_)
  refine q_seq (h := ?_)
  refine sq (h := ?_)
  refine rg (h := ?_)
  refine WL.y (hy := (by first | exact fa | exact faE)) (h := ?_)
  refine WL.y (hy := (by first | exact ldA | exact ldEA)) (h := ?_)
  refine WL.y (hy := bd) (h := ?_)
  refine WL.y (hy := eqlT) (h := ?_)
  rw [zP]
  refine WL.y (hy := asg) (h := ?_)
  refine nl (h := ?_)
  refine q_seq (h := ?_)
  refine sq (h := ?_)
  refine sq (h := ?_)
  refine rg (h := ?_)
  refine WL.y (hy := (by first | exact fa | exact faE)) (h := ?_)
  refine WL.y (hy := (by first | exact ld | exact ldE)) (h := ?_)
  refine nl (h := ?_)
  refine q_seq (h := ?_)
  refine bk (h := ?_)
  refine sq (h := ?_)
  refine rg (h := ?_)
  refine WL.y (hy := eql) (h := ?_)
  refine WL.y (hy := asg) (h := ?_)
  refine nl (h := ?_)
  refine q_seq (h := ?_)
  refine cd (by exact rfl) (fun h1 => ?_) (fun h1 => ?_)
  · skip
    refine sq (h := ?_)
    refine rg (h := ?_)
    refine WL.y (hy := mv) (h := ?_)
    refine WL.y (hy := mv) (h := ?_)
    apply brAnd 4 24 28 (by exact rfl)
    · intro hb2
      refine un (h := ?_)
      refine WL.y (hy := (by first | exact fa | exact faE)) (h := ?_)
      refine un (h := ?_)
      refine WL.y (hy := (by first | exact ld | exact ldE)) (h := ?_)
      refine un (h := ?_)
      refine cl0 (hc := fun w hS => C_ref3_within ..) (h := ?_)
      refine WL.y (hy := (by first | exact pkT | exact pkF)) (h := ?_)
      exact mg (by repeat (first | exact trivial | refine ⟨rfl, ?_⟩ | refine ⟨by rw [hb2]; rfl, ?_⟩)) (by repeat (first | exact SubL.nil | (apply SubL.cons; (repeat (first | exact At.here | apply At.there))) | exact SubL.refl _ | apply SubL.skip))
    · intro hb2
      repeat (first | refine un (h := ?_) | refine sk (h := ?_) | refine WL.y (hy := pkF) (h := ?_) | refine WL.y (hy := pkT) (h := ?_))
      exact mg (by repeat (first | exact trivial | refine ⟨rfl, ?_⟩ | refine ⟨by rw [hb2]; rfl, ?_⟩)) (by repeat (first | exact SubL.nil | (apply SubL.cons; (repeat (first | exact At.here | apply At.there))) | exact SubL.refl _ | apply SubL.skip))
    refine WL.y (hy := asg) (h := ?_)
    refine nl (h := ?_)
    refine q_seq (h := ?_)
    refine rtn (h := ?_)
    refine q_blk_ret (h := ?_)
    refine q_then_ret (h := ?_)
    refine q_ret (hR := ?_)
    refine fun w hS => ⟨?_, hS.sub (by repeat (first | exact SubL.nil | (apply SubL.cons; (repeat (first | exact At.here | apply At.there))) | exact SubL.refl _ | apply SubL.skip))⟩
    clear hS
    first
      | (rw [hm]; rfl)
      | (simp_all [mkV, sdV, prV, resV, Bool.and_assoc, Bool.and_comm])
  · skip
    refine sq (h := ?_)
    refine rg (h := ?_)
    refine WL.y (hy := eql) (h := ?_)
    refine WL.y (hy := asg) (h := ?_)
    refine nl (h := ?_)
    refine q_seq (h := ?_)
    refine cd (by exact rfl) (fun h3 => ?_) (fun h3 => ?_)
    · skip
      have hm := mk_two (of_decide_eq_true h3)
      refine sq (h := ?_)
      refine rg (h := ?_)
      refine WL.y (hy := (by first | exact fa | exact faE)) (h := ?_)
      refine WL.y (hy := (by first | exact ld | exact ldE)) (h := ?_)
      refine WL.y (hy := eql) (h := ?_)
      refine WL.y (hy := mv) (h := ?_)
      apply brAnd 5 34 39 (by exact rfl)
      · intro hb4
        refine un (h := ?_)
        refine WL.y (hy := (by first | exact fa | exact faE)) (h := ?_)
        refine un (h := ?_)
        refine WL.y (hy := (by first | exact fa | exact faE)) (h := ?_)
        refine un (h := ?_)
        refine WL.y (hy := (by first | exact ld | exact ldE)) (h := ?_)
        refine un (h := ?_)
        refine cl0 (hc := fun w hS => C_ref3_within ..) (h := ?_)
        refine WL.y (hy := (by first | exact pkT | exact pkF)) (h := ?_)
        exact mg (by repeat (first | exact trivial | refine ⟨rfl, ?_⟩ | refine ⟨by rw [hb4]; rfl, ?_⟩)) (by repeat (first | exact SubL.nil | (apply SubL.cons; (repeat (first | exact At.here | apply At.there))) | exact SubL.refl _ | apply SubL.skip))
      · intro hb4
        repeat (first | refine un (h := ?_) | refine sk (h := ?_) | refine WL.y (hy := pkF) (h := ?_) | refine WL.y (hy := pkT) (h := ?_))
        exact mg (by repeat (first | exact trivial | refine ⟨rfl, ?_⟩ | refine ⟨by rw [hb4]; rfl, ?_⟩)) (by repeat (first | exact SubL.nil | (apply SubL.cons; (repeat (first | exact At.here | apply At.there))) | exact SubL.refl _ | apply SubL.skip))
      refine WL.y (hy := mv) (h := ?_)
      apply brAnd 8 40 48 (by exact rfl)
      · intro hb5
        refine un (h := ?_)
        refine WL.y (hy := (by first | exact fa | exact faE)) (h := ?_)
        refine un (h := ?_)
        refine WL.y (hy := (by first | exact fa | exact faE)) (h := ?_)
        refine un (h := ?_)
        refine WL.y (hy := (by first | exact ld | exact ldE)) (h := ?_)
        refine un (h := ?_)
        refine WL.y (hy := (by first | exact fa | exact faE)) (h := ?_)
        refine un (h := ?_)
        refine WL.y (hy := (by first | exact fa | exact faE)) (h := ?_)
        refine un (h := ?_)
        refine WL.y (hy := (by first | exact ld | exact ldE)) (h := ?_)
        refine un (h := ?_)
        refine cl0 (hc := fun w hS => C_ref3_within ..) (h := ?_)
        refine WL.y (hy := (by first | exact pkT | exact pkF)) (h := ?_)
        exact mg (by repeat (first | exact trivial | refine ⟨rfl, ?_⟩ | refine ⟨by rw [hb5]; rfl, ?_⟩)) (by repeat (first | exact SubL.nil | (apply SubL.cons; (repeat (first | exact At.here | apply At.there))) | exact SubL.refl _ | apply SubL.skip))
      · intro hb5
        repeat (first | refine un (h := ?_) | refine sk (h := ?_) | refine WL.y (hy := pkF) (h := ?_) | refine WL.y (hy := pkT) (h := ?_))
        exact mg (by repeat (first | exact trivial | refine ⟨rfl, ?_⟩ | refine ⟨by rw [hb5]; rfl, ?_⟩)) (by repeat (first | exact SubL.nil | (apply SubL.cons; (repeat (first | exact At.here | apply At.there))) | exact SubL.refl _ | apply SubL.skip))
      refine WL.y (hy := asg) (h := ?_)
      refine nl (h := ?_)
      refine q_seq (h := ?_)
      refine rtn (h := ?_)
      refine q_blk_ret (h := ?_)
      refine q_then_ret (h := ?_)
      refine q_ret (hR := ?_)
      refine fun w hS => ⟨?_, hS.sub (by repeat (first | exact SubL.nil | (apply SubL.cons; (repeat (first | exact At.here | apply At.there))) | exact SubL.refl _ | apply SubL.skip))⟩
      clear hS
      first
        | (rw [hm]; rfl)
        | (simp_all [mkV, sdV, prV, resV, Bool.and_assoc, Bool.and_comm])
    · skip
      refine sq (h := ?_)
      refine sq (h := ?_)
      refine rg (h := ?_)
      refine WL.y (hy := eql) (h := ?_)
      refine WL.y (hy := asg) (h := ?_)
      refine WL.cut (by repeat (first | exact Cut.nil | apply Cut.hit | apply Cut.miss (by exact rfl))) ?_
      refine nl (h := ?_)
      refine q_seq (h := ?_)
      refine cd (by exact rfl) (fun h6 => ?_) (fun h6 => ?_)
      · skip
        refine skp (h := ?_)
        refine q_seq (h := ?_)
        refine cd (by exact rfl) (fun h7 => ?_) (fun h7 => ?_)
        · skip
          refine sq (h := ?_)
          refine rg (h := ?_)
          refine WL.y (hy := (by first | exact fa | exact faE)) (h := ?_)
          refine WL.y (hy := (by first | exact ld | exact ldE)) (h := ?_)
          refine WL.y (hy := eql) (h := ?_)
          refine WL.y (hy := mv) (h := ?_)
          apply brAnd 2 56 58 (by exact rfl)
          · intro hb8
            refine un (h := ?_)
            refine WL.y (hy := mv) (h := ?_)
            refine WL.y (hy := (by first | exact pkT | exact pkF)) (h := ?_)
            exact mg (by repeat (first | exact trivial | refine ⟨rfl, ?_⟩ | refine ⟨by rw [hb8]; rfl, ?_⟩)) (by repeat (first | exact SubL.nil | (apply SubL.cons; (repeat (first | exact At.here | apply At.there))) | exact SubL.refl _ | apply SubL.skip))
          · intro hb8
            repeat (first | refine un (h := ?_) | refine sk (h := ?_) | refine WL.y (hy := pkF) (h := ?_) | refine WL.y (hy := pkT) (h := ?_))
            exact mg (by repeat (first | exact trivial | refine ⟨rfl, ?_⟩ | refine ⟨by rw [hb8]; rfl, ?_⟩)) (by repeat (first | exact SubL.nil | (apply SubL.cons; (repeat (first | exact At.here | apply At.there))) | exact SubL.refl _ | apply SubL.skip))
          refine WL.y (hy := asg) (h := ?_)
          refine nl (h := ?_)
          refine q_seq (h := ?_)
          refine rtn (h := ?_)
          refine q_blk_ret (h := ?_)
          refine q_then_ret (h := ?_)
          refine q_ret (hR := ?_)
          refine fun w hS => ⟨?_, hS.sub (by repeat (first | exact SubL.nil | (apply SubL.cons; (repeat (first | exact At.here | apply At.there))) | exact SubL.refl _ | apply SubL.skip))⟩
          clear hS
          first
            | (rw [hm]; rfl)
            | (simp_all [mkV, sdV, prV, resV, Bool.and_assoc, Bool.and_comm])
        · skip
          refine sq (h := ?_)
          refine sq (h := ?_)
          refine rg (h := ?_)
          refine WL.y (hy := eql) (h := ?_)
          refine WL.y (hy := asg) (h := ?_)
          refine WL.cut (by repeat (first | exact Cut.nil | apply Cut.hit | apply Cut.miss (by exact rfl))) ?_
          refine nl (h := ?_)
          refine q_seq (h := ?_)
          refine cd (by exact rfl) (fun h9 => ?_) (fun h9 => ?_)
          · skip
            refine skp (h := ?_)
            refine q_seq (h := ?_)
            refine cd (by exact rfl) (fun h10 => ?_) (fun h10 => ?_)
            · skip
              refine sq (h := ?_)
              refine rg (h := ?_)
              refine WL.y (hy := mv) (h := ?_)
              refine WL.y (hy := mv) (h := ?_)
              apply brAnd 4 63 67 (by exact rfl)
              · intro hb11
                refine un (h := ?_)
                refine WL.y (hy := (by first | exact fa | exact faE)) (h := ?_)
                refine un (h := ?_)
                refine WL.y (hy := (by first | exact ld | exact ldE)) (h := ?_)
                refine un (h := ?_)
                refine cl0 (hc := fun w hS => C_ref3_within ..) (h := ?_)
                refine WL.y (hy := (by first | exact pkT | exact pkF)) (h := ?_)
                exact mg (by repeat (first | exact trivial | refine ⟨rfl, ?_⟩ | refine ⟨by rw [hb11]; rfl, ?_⟩)) (by repeat (first | exact SubL.nil | (apply SubL.cons; (repeat (first | exact At.here | apply At.there))) | exact SubL.refl _ | apply SubL.skip))
              · intro hb11
                repeat (first | refine un (h := ?_) | refine sk (h := ?_) | refine WL.y (hy := pkF) (h := ?_) | refine WL.y (hy := pkT) (h := ?_))
                exact mg (by repeat (first | exact trivial | refine ⟨rfl, ?_⟩ | refine ⟨by rw [hb11]; rfl, ?_⟩)) (by repeat (first | exact SubL.nil | (apply SubL.cons; (repeat (first | exact At.here | apply At.there))) | exact SubL.refl _ | apply SubL.skip))
              refine WL.y (hy := asg) (h := ?_)
              refine nl (h := ?_)
              refine q_seq (h := ?_)
              refine rtn (h := ?_)
              refine q_blk_ret (h := ?_)
              refine q_then_ret (h := ?_)
              refine q_ret (hR := ?_)
              refine fun w hS => ⟨?_, hS.sub (by repeat (first | exact SubL.nil | (apply SubL.cons; (repeat (first | exact At.here | apply At.there))) | exact SubL.refl _ | apply SubL.skip))⟩
              clear hS
              first
                | (rw [hm]; rfl)
                | (simp_all [mkV, sdV, prV, resV, Bool.and_assoc, Bool.and_comm])
            · skip
              refine skp (h := ?_)
              refine q_blk_norm (h := ?_)
              refine q_seq (h := ?_)
              refine sq (h := ?_)
              refine rg (h := ?_)
              refine WL.y (hy := asg) (h := ?_)
              refine nl (h := ?_)
              refine q_seq (h := ?_)
              refine rtn (h := ?_)
              refine q_ret (hR := ?_)
              refine fun w hS => ⟨?_, hS.sub (by repeat (first | exact SubL.nil | (apply SubL.cons; (repeat (first | exact At.here | apply At.there))) | exact SubL.refl _ | apply SubL.skip))⟩
              clear hS
              first
                | (rw [hm]; rfl)
                | (simp_all [mkV, sdV, prV, resV, Bool.and_assoc, Bool.and_comm])
          · skip
            refine rg (h := ?_)
            refine WL.y (hy := eql) (h := ?_)
            refine WL.y (hy := asg) (h := ?_)
            refine WL.cut (by repeat (first | exact Cut.nil | apply Cut.hit | apply Cut.miss (by exact rfl))) ?_
            refine nl (h := ?_)
            refine q_seq (h := ?_)
            refine cd (by exact rfl) (fun h12 => ?_) (fun h12 => ?_)
            · skip
              refine sq (h := ?_)
              refine rg (h := ?_)
              refine WL.y (hy := mv) (h := ?_)
              refine WL.y (hy := mv) (h := ?_)
              apply brAnd 4 63 67 (by exact rfl)
              · intro hb13
                refine un (h := ?_)
                refine WL.y (hy := (by first | exact fa | exact faE)) (h := ?_)
                refine un (h := ?_)
                refine WL.y (hy := (by first | exact ld | exact ldE)) (h := ?_)
                refine un (h := ?_)
                refine cl0 (hc := fun w hS => C_ref3_within ..) (h := ?_)
                refine WL.y (hy := (by first | exact pkT | exact pkF)) (h := ?_)
                exact mg (by repeat (first | exact trivial | refine ⟨rfl, ?_⟩ | refine ⟨by rw [hb13]; rfl, ?_⟩)) (by repeat (first | exact SubL.nil | (apply SubL.cons; (repeat (first | exact At.here | apply At.there))) | exact SubL.refl _ | apply SubL.skip))
              · intro hb13
                repeat (first | refine un (h := ?_) | refine sk (h := ?_) | refine WL.y (hy := pkF) (h := ?_) | refine WL.y (hy := pkT) (h := ?_))
                exact mg (by repeat (first | exact trivial | refine ⟨rfl, ?_⟩ | refine ⟨by rw [hb13]; rfl, ?_⟩)) (by repeat (first | exact SubL.nil | (apply SubL.cons; (repeat (first | exact At.here | apply At.there))) | exact SubL.refl _ | apply SubL.skip))
              refine WL.y (hy := asg) (h := ?_)
              refine nl (h := ?_)
              refine q_seq (h := ?_)
              refine rtn (h := ?_)
              refine q_blk_ret (h := ?_)
              refine q_then_ret (h := ?_)
              refine q_ret (hR := ?_)
              refine fun w hS => ⟨?_, hS.sub (by repeat (first | exact SubL.nil | (apply SubL.cons; (repeat (first | exact At.here | apply At.there))) | exact SubL.refl _ | apply SubL.skip))⟩
              clear hS
              first
                | (rw [hm]; rfl)
                | (simp_all [mkV, sdV, prV, resV, Bool.and_assoc, Bool.and_comm])
            · skip
              refine skp (h := ?_)
              refine q_blk_norm (h := ?_)
              refine q_seq (h := ?_)
              refine sq (h := ?_)
              refine rg (h := ?_)
              refine WL.y (hy := asg) (h := ?_)
              refine nl (h := ?_)
              refine q_seq (h := ?_)
              refine rtn (h := ?_)
              refine q_ret (hR := ?_)
              refine fun w hS => ⟨?_, hS.sub (by repeat (first | exact SubL.nil | (apply SubL.cons; (repeat (first | exact At.here | apply At.there))) | exact SubL.refl _ | apply SubL.skip))⟩
              clear hS
              first
                | (rw [hm]; rfl)
                | (simp_all [mkV, sdV, prV, resV, Bool.and_assoc, Bool.and_comm])
      · skip
        refine sq (h := ?_)
        refine rg (h := ?_)
        refine WL.y (hy := eql) (h := ?_)
        refine WL.y (hy := asg) (h := ?_)
        refine WL.cut (by repeat (first | exact Cut.nil | apply Cut.hit | apply Cut.miss (by exact rfl))) ?_
        refine nl (h := ?_)
        refine q_seq (h := ?_)
        refine cd (by exact rfl) (fun h14 => ?_) (fun h14 => ?_)
        · skip
          refine skp (h := ?_)
          refine q_seq (h := ?_)
          refine cd (by exact rfl) (fun h15 => ?_) (fun h15 => ?_)
          · skip
            refine sq (h := ?_)
            refine rg (h := ?_)
            refine WL.y (hy := (by first | exact fa | exact faE)) (h := ?_)
            refine WL.y (hy := (by first | exact ld | exact ldE)) (h := ?_)
            refine WL.y (hy := eql) (h := ?_)
            refine WL.y (hy := mv) (h := ?_)
            apply brAnd 2 56 58 (by exact rfl)
            · intro hb16
              refine un (h := ?_)
              refine WL.y (hy := mv) (h := ?_)
              refine WL.y (hy := (by first | exact pkT | exact pkF)) (h := ?_)
              exact mg (by repeat (first | exact trivial | refine ⟨rfl, ?_⟩ | refine ⟨by rw [hb16]; rfl, ?_⟩)) (by repeat (first | exact SubL.nil | (apply SubL.cons; (repeat (first | exact At.here | apply At.there))) | exact SubL.refl _ | apply SubL.skip))
            · intro hb16
              repeat (first | refine un (h := ?_) | refine sk (h := ?_) | refine WL.y (hy := pkF) (h := ?_) | refine WL.y (hy := pkT) (h := ?_))
              exact mg (by repeat (first | exact trivial | refine ⟨rfl, ?_⟩ | refine ⟨by rw [hb16]; rfl, ?_⟩)) (by repeat (first | exact SubL.nil | (apply SubL.cons; (repeat (first | exact At.here | apply At.there))) | exact SubL.refl _ | apply SubL.skip))
            refine WL.y (hy := asg) (h := ?_)
            refine nl (h := ?_)
            refine q_seq (h := ?_)
            refine rtn (h := ?_)
            refine q_blk_ret (h := ?_)
            refine q_then_ret (h := ?_)
            refine q_ret (hR := ?_)
            refine fun w hS => ⟨?_, hS.sub (by repeat (first | exact SubL.nil | (apply SubL.cons; (repeat (first | exact At.here | apply At.there))) | exact SubL.refl _ | apply SubL.skip))⟩
            clear hS
            first
              | (rw [hm]; rfl)
              | (simp_all [mkV, sdV, prV, resV, Bool.and_assoc, Bool.and_comm])
          · skip
            refine sq (h := ?_)
            refine sq (h := ?_)
            refine rg (h := ?_)
            refine WL.y (hy := eql) (h := ?_)
            refine WL.y (hy := asg) (h := ?_)
            refine WL.cut (by repeat (first | exact Cut.nil | apply Cut.hit | apply Cut.miss (by exact rfl))) ?_
            refine nl (h := ?_)
            refine q_seq (h := ?_)
            refine cd (by exact rfl) (fun h17 => ?_) (fun h17 => ?_)
            · skip
              refine skp (h := ?_)
              refine q_seq (h := ?_)
              refine cd (by exact rfl) (fun h18 => ?_) (fun h18 => ?_)
              · skip
                refine sq (h := ?_)
                refine rg (h := ?_)
                refine WL.y (hy := mv) (h := ?_)
                refine WL.y (hy := mv) (h := ?_)
                apply brAnd 4 63 67 (by exact rfl)
                · intro hb19
                  refine un (h := ?_)
                  refine WL.y (hy := (by first | exact fa | exact faE)) (h := ?_)
                  refine un (h := ?_)
                  refine WL.y (hy := (by first | exact ld | exact ldE)) (h := ?_)
                  refine un (h := ?_)
                  refine cl0 (hc := fun w hS => C_ref3_within ..) (h := ?_)
                  refine WL.y (hy := (by first | exact pkT | exact pkF)) (h := ?_)
                  exact mg (by repeat (first | exact trivial | refine ⟨rfl, ?_⟩ | refine ⟨by rw [hb19]; rfl, ?_⟩)) (by repeat (first | exact SubL.nil | (apply SubL.cons; (repeat (first | exact At.here | apply At.there))) | exact SubL.refl _ | apply SubL.skip))
                · intro hb19
                  repeat (first | refine un (h := ?_) | refine sk (h := ?_) | refine WL.y (hy := pkF) (h := ?_) | refine WL.y (hy := pkT) (h := ?_))
                  exact mg (by repeat (first | exact trivial | refine ⟨rfl, ?_⟩ | refine ⟨by rw [hb19]; rfl, ?_⟩)) (by repeat (first | exact SubL.nil | (apply SubL.cons; (repeat (first | exact At.here | apply At.there))) | exact SubL.refl _ | apply SubL.skip))
                refine WL.y (hy := asg) (h := ?_)
                refine nl (h := ?_)
                refine q_seq (h := ?_)
                refine rtn (h := ?_)
                refine q_blk_ret (h := ?_)
                refine q_then_ret (h := ?_)
                refine q_ret (hR := ?_)
                refine fun w hS => ⟨?_, hS.sub (by repeat (first | exact SubL.nil | (apply SubL.cons; (repeat (first | exact At.here | apply At.there))) | exact SubL.refl _ | apply SubL.skip))⟩
                clear hS
                first
                  | (rw [hm]; rfl)
                  | (simp_all [mkV, sdV, prV, resV, Bool.and_assoc, Bool.and_comm])
              · skip
                refine skp (h := ?_)
                refine q_blk_norm (h := ?_)
                refine q_seq (h := ?_)
                refine sq (h := ?_)
                refine rg (h := ?_)
                refine WL.y (hy := asg) (h := ?_)
                refine nl (h := ?_)
                refine q_seq (h := ?_)
                refine rtn (h := ?_)
                refine q_ret (hR := ?_)
                refine fun w hS => ⟨?_, hS.sub (by repeat (first | exact SubL.nil | (apply SubL.cons; (repeat (first | exact At.here | apply At.there))) | exact SubL.refl _ | apply SubL.skip))⟩
                clear hS
                first
                  | (rw [hm]; rfl)
                  | (simp_all [mkV, sdV, prV, resV, Bool.and_assoc, Bool.and_comm])
            · skip
              refine rg (h := ?_)
              refine WL.y (hy := eql) (h := ?_)
              refine WL.y (hy := asg) (h := ?_)
              refine WL.cut (by repeat (first | exact Cut.nil | apply Cut.hit | apply Cut.miss (by exact rfl))) ?_
              refine nl (h := ?_)
              refine q_seq (h := ?_)
              refine cd (by exact rfl) (fun h20 => ?_) (fun h20 => ?_)
              · skip
                refine sq (h := ?_)
                refine rg (h := ?_)
                refine WL.y (hy := mv) (h := ?_)
                refine WL.y (hy := mv) (h := ?_)
                apply brAnd 4 63 67 (by exact rfl)
                · intro hb21
                  refine un (h := ?_)
                  refine WL.y (hy := (by first | exact fa | exact faE)) (h := ?_)
                  refine un (h := ?_)
                  refine WL.y (hy := (by first | exact ld | exact ldE)) (h := ?_)
                  refine un (h := ?_)
                  refine cl0 (hc := fun w hS => C_ref3_within ..) (h := ?_)
                  refine WL.y (hy := (by first | exact pkT | exact pkF)) (h := ?_)
                  exact mg (by repeat (first | exact trivial | refine ⟨rfl, ?_⟩ | refine ⟨by rw [hb21]; rfl, ?_⟩)) (by repeat (first | exact SubL.nil | (apply SubL.cons; (repeat (first | exact At.here | apply At.there))) | exact SubL.refl _ | apply SubL.skip))
                · intro hb21
                  repeat (first | refine un (h := ?_) | refine sk (h := ?_) | refine WL.y (hy := pkF) (h := ?_) | refine WL.y (hy := pkT) (h := ?_))
                  exact mg (by repeat (first | exact trivial | refine ⟨rfl, ?_⟩ | refine ⟨by rw [hb21]; rfl, ?_⟩)) (by repeat (first | exact SubL.nil | (apply SubL.cons; (repeat (first | exact At.here | apply At.there))) | exact SubL.refl _ | apply SubL.skip))
                refine WL.y (hy := asg) (h := ?_)
                refine nl (h := ?_)
                refine q_seq (h := ?_)
                refine rtn (h := ?_)
                refine q_blk_ret (h := ?_)
                refine q_then_ret (h := ?_)
                refine q_ret (hR := ?_)
                refine fun w hS => ⟨?_, hS.sub (by repeat (first | exact SubL.nil | (apply SubL.cons; (repeat (first | exact At.here | apply At.there))) | exact SubL.refl _ | apply SubL.skip))⟩
                clear hS
                first
                  | (rw [hm]; rfl)
                  | (simp_all [mkV, sdV, prV, resV, Bool.and_assoc, Bool.and_comm])
              · skip
                refine skp (h := ?_)
                refine q_blk_norm (h := ?_)
                refine q_seq (h := ?_)
                refine sq (h := ?_)
                refine rg (h := ?_)
                refine WL.y (hy := asg) (h := ?_)
                refine nl (h := ?_)
                refine q_seq (h := ?_)
                refine rtn (h := ?_)
                refine q_ret (hR := ?_)
                refine fun w hS => ⟨?_, hS.sub (by repeat (first | exact SubL.nil | (apply SubL.cons; (repeat (first | exact At.here | apply At.there))) | exact SubL.refl _ | apply SubL.skip))⟩
                clear hS
                first
                  | (rw [hm]; rfl)
                  | (simp_all [mkV, sdV, prV, resV, Bool.and_assoc, Bool.and_comm])
        · skip
          refine rg (h := ?_)
          refine WL.y (hy := eql) (h := ?_)
          refine WL.y (hy := asg) (h := ?_)
          refine WL.cut (by repeat (first | exact Cut.nil | apply Cut.hit | apply Cut.miss (by exact rfl))) ?_
          refine nl (h := ?_)
          refine q_seq (h := ?_)
          refine cd (by exact rfl) (fun h22 => ?_) (fun h22 => ?_)
          · skip
            refine sq (h := ?_)
            refine rg (h := ?_)
            refine WL.y (hy := (by first | exact fa | exact faE)) (h := ?_)
            refine WL.y (hy := (by first | exact ld | exact ldE)) (h := ?_)
            refine WL.y (hy := eql) (h := ?_)
            refine WL.y (hy := mv) (h := ?_)
            apply brAnd 2 56 58 (by exact rfl)
            · intro hb23
              refine un (h := ?_)
              refine WL.y (hy := mv) (h := ?_)
              refine WL.y (hy := (by first | exact pkT | exact pkF)) (h := ?_)
              exact mg (by repeat (first | exact trivial | refine ⟨rfl, ?_⟩ | refine ⟨by rw [hb23]; rfl, ?_⟩)) (by repeat (first | exact SubL.nil | (apply SubL.cons; (repeat (first | exact At.here | apply At.there))) | exact SubL.refl _ | apply SubL.skip))
            · intro hb23
              repeat (first | refine un (h := ?_) | refine sk (h := ?_) | refine WL.y (hy := pkF) (h := ?_) | refine WL.y (hy := pkT) (h := ?_))
              exact mg (by repeat (first | exact trivial | refine ⟨rfl, ?_⟩ | refine ⟨by rw [hb23]; rfl, ?_⟩)) (by repeat (first | exact SubL.nil | (apply SubL.cons; (repeat (first | exact At.here | apply At.there))) | exact SubL.refl _ | apply SubL.skip))
            refine WL.y (hy := asg) (h := ?_)
            refine nl (h := ?_)
            refine q_seq (h := ?_)
            refine rtn (h := ?_)
            refine q_blk_ret (h := ?_)
            refine q_then_ret (h := ?_)
            refine q_ret (hR := ?_)
            refine fun w hS => ⟨?_, hS.sub (by repeat (first | exact SubL.nil | (apply SubL.cons; (repeat (first | exact At.here | apply At.there))) | exact SubL.refl _ | apply SubL.skip))⟩
            clear hS
            first
              | (rw [hm]; rfl)
              | (simp_all [mkV, sdV, prV, resV, Bool.and_assoc, Bool.and_comm])
          · skip
            refine sq (h := ?_)
            refine sq (h := ?_)
            refine rg (h := ?_)
            refine WL.y (hy := eql) (h := ?_)
            refine WL.y (hy := asg) (h := ?_)
            refine WL.cut (by repeat (first | exact Cut.nil | apply Cut.hit | apply Cut.miss (by exact rfl))) ?_
            refine nl (h := ?_)
            refine q_seq (h := ?_)
            refine cd (by exact rfl) (fun h24 => ?_) (fun h24 => ?_)
            · skip
              refine skp (h := ?_)
              refine q_seq (h := ?_)
              refine cd (by exact rfl) (fun h25 => ?_) (fun h25 => ?_)
              · skip
                refine sq (h := ?_)
                refine rg (h := ?_)
                refine WL.y (hy := mv) (h := ?_)
                refine WL.y (hy := mv) (h := ?_)
                apply brAnd 4 63 67 (by exact rfl)
                · intro hb26
                  refine un (h := ?_)
                  refine WL.y (hy := (by first | exact fa | exact faE)) (h := ?_)
                  refine un (h := ?_)
                  refine WL.y (hy := (by first | exact ld | exact ldE)) (h := ?_)
                  refine un (h := ?_)
                  refine cl0 (hc := fun w hS => C_ref3_within ..) (h := ?_)
                  refine WL.y (hy := (by first | exact pkT | exact pkF)) (h := ?_)
                  exact mg (by repeat (first | exact trivial | refine ⟨rfl, ?_⟩ | refine ⟨by rw [hb26]; rfl, ?_⟩)) (by repeat (first | exact SubL.nil | (apply SubL.cons; (repeat (first | exact At.here | apply At.there))) | exact SubL.refl _ | apply SubL.skip))
                · intro hb26
                  repeat (first | refine un (h := ?_) | refine sk (h := ?_) | refine WL.y (hy := pkF) (h := ?_) | refine WL.y (hy := pkT) (h := ?_))
                  exact mg (by repeat (first | exact trivial | refine ⟨rfl, ?_⟩ | refine ⟨by rw [hb26]; rfl, ?_⟩)) (by repeat (first | exact SubL.nil | (apply SubL.cons; (repeat (first | exact At.here | apply At.there))) | exact SubL.refl _ | apply SubL.skip))
                refine WL.y (hy := asg) (h := ?_)
                refine nl (h := ?_)
                refine q_seq (h := ?_)
                refine rtn (h := ?_)
                refine q_blk_ret (h := ?_)
                refine q_then_ret (h := ?_)
                refine q_ret (hR := ?_)
                refine fun w hS => ⟨?_, hS.sub (by repeat (first | exact SubL.nil | (apply SubL.cons; (repeat (first | exact At.here | apply At.there))) | exact SubL.refl _ | apply SubL.skip))⟩
                clear hS
                first
                  | (rw [hm]; rfl)
                  | (simp_all [mkV, sdV, prV, resV, Bool.and_assoc, Bool.and_comm])
              · skip
                refine skp (h := ?_)
                refine q_blk_norm (h := ?_)
                refine q_seq (h := ?_)
                refine sq (h := ?_)
                refine rg (h := ?_)
                refine WL.y (hy := asg) (h := ?_)
                refine nl (h := ?_)
                refine q_seq (h := ?_)
                refine rtn (h := ?_)
                refine q_ret (hR := ?_)
                refine fun w hS => ⟨?_, hS.sub (by repeat (first | exact SubL.nil | (apply SubL.cons; (repeat (first | exact At.here | apply At.there))) | exact SubL.refl _ | apply SubL.skip))⟩
                clear hS
                first
                  | (rw [hm]; rfl)
                  | (simp_all [mkV, sdV, prV, resV, Bool.and_assoc, Bool.and_comm])
            · skip
              refine rg (h := ?_)
              refine WL.y (hy := eql) (h := ?_)
              refine WL.y (hy := asg) (h := ?_)
              refine WL.cut (by repeat (first | exact Cut.nil | apply Cut.hit | apply Cut.miss (by exact rfl))) ?_
              refine nl (h := ?_)
              refine q_seq (h := ?_)
              refine cd (by exact rfl) (fun h27 => ?_) (fun h27 => ?_)
              · skip
                refine sq (h := ?_)
                refine rg (h := ?_)
                refine WL.y (hy := mv) (h := ?_)
                refine WL.y (hy := mv) (h := ?_)
                apply brAnd 4 63 67 (by exact rfl)
                · intro hb28
                  refine un (h := ?_)
                  refine WL.y (hy := (by first | exact fa | exact faE)) (h := ?_)
                  refine un (h := ?_)
                  refine WL.y (hy := (by first | exact ld | exact ldE)) (h := ?_)
                  refine un (h := ?_)
                  refine cl0 (hc := fun w hS => C_ref3_within ..) (h := ?_)
                  refine WL.y (hy := (by first | exact pkT | exact pkF)) (h := ?_)
                  exact mg (by repeat (first | exact trivial | refine ⟨rfl, ?_⟩ | refine ⟨by rw [hb28]; rfl, ?_⟩)) (by repeat (first | exact SubL.nil | (apply SubL.cons; (repeat (first | exact At.here | apply At.there))) | exact SubL.refl _ | apply SubL.skip))
                · intro hb28
                  repeat (first | refine un (h := ?_) | refine sk (h := ?_) | refine WL.y (hy := pkF) (h := ?_) | refine WL.y (hy := pkT) (h := ?_))
                  exact mg (by repeat (first | exact trivial | refine ⟨rfl, ?_⟩ | refine ⟨by rw [hb28]; rfl, ?_⟩)) (by repeat (first | exact SubL.nil | (apply SubL.cons; (repeat (first | exact At.here | apply At.there))) | exact SubL.refl _ | apply SubL.skip))
                refine WL.y (hy := asg) (h := ?_)
                refine nl (h := ?_)
                refine q_seq (h := ?_)
                refine rtn (h := ?_)
                refine q_blk_ret (h := ?_)
                refine q_then_ret (h := ?_)
                refine q_ret (hR := ?_)
                refine fun w hS => ⟨?_, hS.sub (by repeat (first | exact SubL.nil | (apply SubL.cons; (repeat (first | exact At.here | apply At.there))) | exact SubL.refl _ | apply SubL.skip))⟩
                clear hS
                first
                  | (rw [hm]; rfl)
                  | (simp_all [mkV, sdV, prV, resV, Bool.and_assoc, Bool.and_comm])
              · skip
                refine skp (h := ?_)
                refine q_blk_norm (h := ?_)
                refine q_seq (h := ?_)
                refine sq (h := ?_)
                refine rg (h := ?_)
                refine WL.y (hy := asg) (h := ?_)
                refine nl (h := ?_)
                refine q_seq (h := ?_)
                refine rtn (h := ?_)
                refine q_ret (hR := ?_)
                refine fun w hS => ⟨?_, hS.sub (by repeat (first | exact SubL.nil | (apply SubL.cons; (repeat (first | exact At.here | apply At.there))) | exact SubL.refl _ | apply SubL.skip))⟩
                clear hS
                first
                  | (rw [hm]; rfl)
                  | (simp_all [mkV, sdV, prV, resV, Bool.and_assoc, Bool.and_comm])
theorem C_ref3_Most (x : Nt) (w : World) : C0 Try.prog 61 [x.val] w (.int .i64 (mostN x)) := by
  refine ⟨en Try.func61 Try.ntmps61 (St.init w) (h := fun F => ?_)⟩
  refine sq (h := ?_)
  refine rg (h := ?_)
  refine bxA (h := fun b0 => ?_)
  refine WL.y (hy := asg) (h := ?_)
  refine nl (h := ?_)
  refine q_seq (h := ?_)
  refine sq (h := ?_)
  refine sq (h := ?_)
  refine rg (h := ?_)
  refine WL.y (hy := (by first | exact fa | exact faE)) (h := ?_)
  refine WL.y (hy := (by first | exact ld | exact ldE)) (h := ?_)
  refine nl (h := ?_)
  refine q_seq (h := ?_)
  refine bk (h := ?_)
  refine sq (h := ?_)
  refine rg (h := ?_)
  refine WL.y (hy := eql) (h := ?_)
  refine WL.y (hy := asg) (h := ?_)
  refine nl (h := ?_)
  refine q_seq (h := ?_)
  refine cd (by exact rfl) (fun h0 => ?_) (fun h0 => ?_)
  · skip
    have hm : mostN x = 1 := by unfold mostN; rw [if_pos (of_decide_eq_true h0)]
    refine sq (h := ?_)
    refine rg (h := ?_)
    refine WL.y (hy := asg) (h := ?_)
    refine nl (h := ?_)
    refine q_seq (h := ?_)
    refine rtn (h := ?_)
    refine q_blk_ret (h := ?_)
    refine q_then_ret (h := ?_)
    refine q_ret (hR := ?_)
    rw [hm]
    exact fun w hS => ⟨rfl, hS.sub (by repeat (first | exact SubL.nil | (apply SubL.cons; (repeat (first | exact At.here | apply At.there))) | exact SubL.refl _ | apply SubL.skip))⟩
  · skip
    have n1 := of_decide_eq_false h0
    refine sq (h := ?_)
    refine rg (h := ?_)
    refine WL.y (hy := eql) (h := ?_)
    refine WL.y (hy := asg) (h := ?_)
    refine nl (h := ?_)
    refine q_seq (h := ?_)
    refine cd (by exact rfl) (fun h1 => ?_) (fun h1 => ?_)
    · skip
      have hm : mostN x = x.pair.2 := by unfold mostN; rw [if_neg n1, if_pos (of_decide_eq_true h1)]
      refine sq (h := ?_)
      refine rg (h := ?_)
      refine WL.y (hy := (by first | exact fa | exact faE)) (h := ?_)
      refine WL.y (hy := (by first | exact fa | exact faE)) (h := ?_)
      refine WL.y (hy := (by first | exact ld | exact ldE)) (h := ?_)
      refine WL.y (hy := asg) (h := ?_)
      refine nl (h := ?_)
      refine q_seq (h := ?_)
      refine rtn (h := ?_)
      refine q_blk_ret (h := ?_)
      refine q_then_ret (h := ?_)
      refine q_ret (hR := ?_)
      rw [hm]
      exact fun w hS => ⟨rfl, hS.sub (by repeat (first | exact SubL.nil | (apply SubL.cons; (repeat (first | exact At.here | apply At.there))) | exact SubL.refl _ | apply SubL.skip))⟩
    · skip
      have hm : mostN x = 0 := by unfold mostN; rw [if_neg n1, if_neg (of_decide_eq_false h1)]
      refine skp (h := ?_)
      refine q_blk_norm (h := ?_)
      refine q_seq (h := ?_)
      refine sq (h := ?_)
      refine rg (h := ?_)
      refine WL.y (hy := asg) (h := ?_)
      refine nl (h := ?_)
      refine q_seq (h := ?_)
      refine rtn (h := ?_)
      refine q_ret (hR := ?_)
      rw [hm]
      exact fun w hS => ⟨rfl, hS.sub (by repeat (first | exact SubL.nil | (apply SubL.cons; (repeat (first | exact At.here | apply At.there))) | exact SubL.refl _ | apply SubL.skip))⟩
theorem C_ref3_Check (f : Fmt) (first : Int) (xs : List Nt) (A : Option Addr) (n c : Nat) (w : World) (h : Rd w A 4 n (encN xs)) (hn : n ≤ 9223372036854775807) : C0 Try.prog 31 [.agg (cardC f first A n c).toArray] w (.int .i64 (chkC f first xs)) := by
  have hlen : xs.length = n := by have := h.len; rwa [encN_len] at this
  refine ⟨en Try.func31 Try.ntmps31 ((St.init w).share (e := .ro A 4 n (encN xs)) h rfl rfl rfl) (h := fun F => ?_)⟩
  refine sq (h := ?_)
  refine rg (h := ?_)
  refine bxA (h := fun b0 => ?_)
  refine WL.y (hy := asg) (h := ?_)
  refine nl (h := ?_)
  refine q_seq (h := ?_)
  refine sq (h := ?_)
  refine sq (h := ?_)
  refine rg (h := ?_)
  refine WL.y (hy := (by first | exact fa | exact faE)) (h := ?_)
  refine WL.y (hy := (by first | exact ldA | exact ldEA)) (h := ?_)
  refine cl0 (hc := fun w hS => C_ref1_Check f w) (h := ?_)
  refine WL.y (hy := neq) (h := ?_)
  refine WL.y (hy := mv) (h := ?_)
  apply brOr 5 9 14 (by exact rfl)
  · intro hb0
    refine un (h := ?_)
    refine WL.y (hy := (by first | exact fa | exact faE)) (h := ?_)
    refine un (h := ?_)
    refine WL.y (hy := (by first | exact ld | exact ldE)) (h := ?_)
    refine un (h := ?_)
    refine cl0 (hc := fun w hS => C_ref3_within ..) (h := ?_)
    refine un (h := ?_)
    refine WL.y (hy := notB) (h := ?_)
    refine WL.y (hy := (by first | exact pkT | exact pkF)) (h := ?_)
    exact mg (by repeat (first | exact trivial | refine ⟨rfl, ?_⟩ | refine ⟨by rw [hb0]; rfl, ?_⟩)) (by repeat (first | exact SubL.nil | (apply SubL.cons; (repeat (first | exact At.here | apply At.there))) | exact SubL.refl _ | apply SubL.skip))
  · intro hb0
    repeat (first | refine un (h := ?_) | refine sk (h := ?_) | refine WL.y (hy := pkF) (h := ?_) | refine WL.y (hy := pkT) (h := ?_))
    exact mg (by repeat (first | exact trivial | refine ⟨rfl, ?_⟩ | refine ⟨by rw [hb0]; rfl, ?_⟩)) (by repeat (first | exact SubL.nil | (apply SubL.cons; (repeat (first | exact At.here | apply At.there))) | exact SubL.refl _ | apply SubL.skip))
  refine WL.y (hy := mv) (h := ?_)
  apply brOr 5 15 20 (by exact rfl)
  · intro hb1
    refine un (h := ?_)
    refine WL.y (hy := (by first | exact fa | exact faE)) (h := ?_)
    refine un (h := ?_)
    refine WL.y (hy := (by first | exact ld | exact ldE)) (h := ?_)
    refine un (h := ?_)
    refine WL.y (hy := lenS) (h := ?_)
    refine un (h := ?_)
    refine WL.y (hy := gtr) (h := ?_)
    refine WL.y (hy := (by first | exact pkT | exact pkF)) (h := ?_)
    exact mg (by repeat (first | exact trivial | refine ⟨rfl, ?_⟩ | refine ⟨by rw [hb1]; rfl, ?_⟩)) (by repeat (first | exact SubL.nil | (apply SubL.cons; (repeat (first | exact At.here | apply At.there))) | exact SubL.refl _ | apply SubL.skip))
  · intro hb1
    repeat (first | refine un (h := ?_) | refine sk (h := ?_) | refine WL.y (hy := pkF) (h := ?_) | refine WL.y (hy := pkT) (h := ?_))
    exact mg (by repeat (first | exact trivial | refine ⟨rfl, ?_⟩ | refine ⟨by rw [hb1]; rfl, ?_⟩)) (by repeat (first | exact SubL.nil | (apply SubL.cons; (repeat (first | exact At.here | apply At.there))) | exact SubL.refl _ | apply SubL.skip))
  refine nl (h := ?_)
  refine q_seq (h := ?_)
  refine cd (by exact rfl) (fun h2 => ?_) (fun h2 => ?_)
  · skip
    have hE : chkC f first xs = 30 := by
      have h' : headB f first xs.length = true := by rw [hlen]; exact h2
      rw [chkC, h']; rfl
    refine sq (h := ?_)
    refine rg (h := ?_)
    refine WL.y (hy := asg) (h := ?_)
    refine nl (h := ?_)
    refine q_seq (h := ?_)
    refine rtn (h := ?_)
    refine q_then_ret (h := ?_)
    refine q_ret (hR := ?_)
    rw [hE]
    exact fun w hS => ⟨rfl, hS.sub (by repeat (first | exact SubL.nil | (apply SubL.cons; (repeat (first | exact At.here | apply At.there))) | exact SubL.refl _ | apply SubL.skip))⟩
  · skip
    have hH : headB f first xs.length = false := by rw [hlen]; exact h2
    have hn30 : n ≤ 30 := by
      have h' := hH
      unfold headB at h'
      simp only [Bool.or_eq_false_iff, decide_eq_false_iff_not] at h'
      omega
    refine skp (h := ?_)
    refine q_seq (h := ?_)
    refine sq (h := ?_)
    refine rg (h := ?_)
    refine WL.y (hy := asg) (h := ?_)
    refine WL.cut (by repeat (first | exact Cut.nil | apply Cut.hit | apply Cut.miss (by exact rfl))) ?_
    refine nl (h := ?_)
    refine q_seq (h := ?_)
    refine sq (h := ?_)
    refine sq (h := ?_)
    refine rg (h := ?_)
    refine WL.y (hy := asg) (h := ?_)
    refine WL.cut (by repeat (first | exact Cut.nil | apply Cut.hit | apply Cut.miss (by exact rfl))) ?_
    refine nl (h := ?_)
    refine q_seq (h := ?_)
    refine bk (h := ?_)
    refine lp (X := CKZ) (I := fun z => z.k ≤ n ∧ (xs.take z.k).all mkV = true ∧ 0 ≤ mostS (xs.take z.k) ∧ mostS (xs.take z.k) ≤ 30 * (z.k : Int)) (le := fun z => [(1, .pointer (some ⟨b0, 0, none⟩)), (3, .int .i64 (mostS (xs.take z.k))), (4, .int .i64 z.k)]) (Le := fun z => [.blk b0 26 (cardC f first A n c), .ro A 4 n (encN xs)]) (μ := fun z => n - z.k) ⟨0⟩ ⟨Nat.zero_le _, rfl, by exact Int.le_refl _, by exact Int.le_refl _⟩ (by repeat (first | exact trivial | refine ⟨rfl, ?_⟩)) (by repeat (first | exact SubL.nil | (apply SubL.cons; (repeat (first | exact At.here | apply At.there))) | exact SubL.refl _ | apply SubL.skip)) (fun z hz => ?_)
    obtain ⟨hzk, hza, hz0, hzm⟩ := hz
    refine sq (h := ?_)
    refine sq (h := ?_)
    refine rg (h := ?_)
    refine WL.y (hy := mv) (h := ?_)
    refine WL.y (hy := (by first | exact fa | exact faE)) (h := ?_)
    refine WL.y (hy := (by first | exact ld | exact ldE)) (h := ?_)
    refine WL.y (hy := lenS) (h := ?_)
    refine WL.y (hy := lss) (h := ?_)
    refine nl (h := ?_)
    refine q_seq (h := ?_)
    refine cd (by exact rfl) (fun h3 => ?_) (fun h3 => ?_)
    · skip
      have hkn : z.k < n := by simp only [decide_eq_true_eq] at h3; omega
      obtain ⟨x, hx⟩ : ∃ x, xs[z.k]? = some x := ⟨_, List.getElem?_eq_getElem (by omega)⟩
      have hxe := encN_at hx
      have hms := mostS_succ hx
      have hal := all_take hx
      refine skp (h := ?_)
      refine q_seq (h := ?_)
      refine sq (h := ?_)
      refine bk (h := ?_)
      refine sq (h := ?_)
      refine sq (h := ?_)
      refine rg (h := ?_)
      refine WL.y (hy := (by first | exact fa | exact faE)) (h := ?_)
      refine WL.y (hy := (by first | exact ld | exact ldE)) (h := ?_)
      refine WL.y (hy := mv) (h := ?_)
      refine WL.y (hy := ix (hb := by omega)) (h := ?_)
      refine WL.y (hy := ldEA (hk := hxe)) (h := ?_)
      refine cl0 (hc := fun w hS => C_ref3_IsMark _ w) (h := ?_)
      refine WL.y (hy := notB) (h := ?_)
      refine nl (h := ?_)
      refine q_seq (h := ?_)
      refine cd (by exact rfl) (fun h4 => ?_) (fun h4 => ?_)
      · skip
        have hE : chkC f first xs = 30 := by
          have h1 : (!mkV x) = true := h4
          have h2 : xs.all mkV = false := all_bad (k := z.k + 1) (by rw [hal, show mkV x = false by simpa using h1, Bool.and_false])
          rw [chkC, hH, h2]; rfl
        refine sq (h := ?_)
        refine rg (h := ?_)
        refine WL.y (hy := asg) (h := ?_)
        refine nl (h := ?_)
        refine q_seq (h := ?_)
        refine rtn (h := ?_)
        refine q_then_ret (h := ?_)
        refine q_blk_ret (h := ?_)
        refine q_then_ret (h := ?_)
        refine q_then_ret (h := ?_)
        refine q_blk_ret (h := ?_)
        refine q_then_ret (h := ?_)
        refine q_ret (hR := ?_)
        rw [hE]
        exact fun w hS => ⟨rfl, hS.sub (by repeat (first | exact SubL.nil | (apply SubL.cons; (repeat (first | exact At.here | apply At.there))) | exact SubL.refl _ | apply SubL.skip))⟩
      · skip
        have hmk : mkV x = true := by simpa using h4
        have hmb := most_bd hmk
        have hal2 : (xs.take (z.k + 1)).all mkV = true := by rw [hal, hza, hmk]; rfl
        refine skp (h := ?_)
        refine q_seq (h := ?_)
        refine rg (h := ?_)
        refine WL.y (hy := mv) (h := ?_)
        refine WL.y (hy := (by first | exact fa | exact faE)) (h := ?_)
        refine WL.y (hy := (by first | exact ld | exact ldE)) (h := ?_)
        refine WL.y (hy := mv) (h := ?_)
        refine WL.y (hy := ix (hb := by omega)) (h := ?_)
        refine WL.y (hy := ldEA (hk := hxe)) (h := ?_)
        refine cl0 (hc := fun w hS => C_ref3_Most _ w) (h := ?_)
        refine WL.y (hy := addI (hb := by omega)) (h := ?_)
        refine WL.y (hy := asg) (h := ?_)
        refine WL.cut (by repeat (first | exact Cut.nil | apply Cut.hit | apply Cut.miss (by exact rfl))) ?_
        refine nl (h := ?_)
        refine q_blk_norm (h := ?_)
        refine q_seq (h := ?_)
        refine rg (h := ?_)
        refine WL.y (hy := mv) (h := ?_)
        refine WL.y (hy := addI) (h := ?_)
        refine WL.y (hy := asg) (h := ?_)
        refine WL.cut (by repeat (first | exact Cut.nil | apply Cut.hit | apply Cut.miss (by exact rfl))) ?_
        refine nl (h := ?_)
        refine rn (x := z) ⟨z.k + 1⟩ ⟨by dsimp only; omega, hal2, by dsimp only; omega, by dsimp only; omega⟩ (by dsimp only; omega) (by dsimp only; rw [hms]; repeat (first | exact trivial | refine ⟨rfl, ?_⟩)) (by repeat (first | exact SubL.nil | (apply SubL.cons; (repeat (first | exact At.here | apply At.there))) | exact SubL.refl _ | apply SubL.skip))
    · skip
      have hkn : z.k = n := by simp only [decide_eq_false_iff_not] at h3; omega
      have htk : xs.take z.k = xs := by rw [hkn, ← hlen, List.take_length]
      rw [htk] at hza hzm
      refine et (h := ?_)
      refine q_then_exit (h := ?_)
      refine q_then_exit (h := ?_)
      refine q_blk_hit (h := ?_)
      refine q_seq (h := ?_)
      refine sq (h := ?_)
      refine sq (h := ?_)
      refine rg (h := ?_)
      refine WL.y (hy := mv) (h := ?_)
      refine WL.y (hy := gtr) (h := ?_)
      refine nl (h := ?_)
      refine q_seq (h := ?_)
      refine cd (by exact rfl) (fun h5 => ?_) (fun h5 => ?_)
      · skip
        have h8 := h5
        rw [htk] at h8
        have hE : chkC f first xs = 30 := by rw [chkC, hH, hza, show decide (600 < mostS xs) = true from h8]; rfl
        refine sq (h := ?_)
        refine rg (h := ?_)
        refine WL.y (hy := asg) (h := ?_)
        refine nl (h := ?_)
        refine q_seq (h := ?_)
        refine rtn (h := ?_)
        refine q_then_ret (h := ?_)
        refine q_ret (hR := ?_)
        rw [hE]
        exact fun w hS => ⟨rfl, hS.sub (by repeat (first | exact SubL.nil | (apply SubL.cons; (repeat (first | exact At.here | apply At.there))) | exact SubL.refl _ | apply SubL.skip))⟩
      · skip
        have h8 := h5
        rw [htk] at h8
        have hE : chkC f first xs = 0 := by rw [chkC, hH, hza, show decide (600 < mostS xs) = false from h8]; rfl
        refine skp (h := ?_)
        refine q_seq (h := ?_)
        refine sq (h := ?_)
        refine rg (h := ?_)
        refine WL.y (hy := asg) (h := ?_)
        refine nl (h := ?_)
        refine q_seq (h := ?_)
        refine rtn (h := ?_)
        refine q_ret (hR := ?_)
        rw [hE]
        exact fun w hS => ⟨rfl, hS.sub (by repeat (first | exact SubL.nil | (apply SubL.cons; (repeat (first | exact At.here | apply At.there))) | exact SubL.refl _ | apply SubL.skip))⟩
end Go.Proofs.Ytncoimjgjpcipaa

namespace Go.Proofs.Ytncoimjgjpcipaa
open Go Go.RowKit

def misN (x : Nt) : Int := bif decide (x.kind = 2) then x.pair.2 else 0
def misS (xs : List Nt) : Int := (xs.map misN).sum
theorem put_len (l : List En) (e : En) : (putC l e).length ≤ l.length + 1 := by
  induction l with
  | nil => exact Nat.le_refl _
  | cons x l ih =>
    rw [putC]
    by_cases h : x.1 = e.1
    · rw [if_pos h]; simp
    · rw [if_neg h]; simp only [List.length_cons]; omega
theorem norm_len (l : List En) : (normC l).length ≤ l.length := by
  have : ∀ (l acc : List En), (l.foldl putC acc).length ≤ acc.length + l.length := fun l => by
    induction l with
    | nil => intro acc; exact Nat.le_refl _
    | cons e l ih =>
      intro acc
      have h1 := ih (putC acc e)
      have h2 := put_len acc e
      rw [List.foldl_cons, List.length_cons]; omega
  have := this l []
  rw [normC]; simpa using this
theorem go_len (f : Fmt) (side : Int) (e : En) (p : Int) : (goE f side e p).length ≤ 1 := by
  unfold goE
  by_cases h : side = -1 ∨ side = p
  · rw [if_pos h]; cases nxtS f e.1 p <;> simp
  · rw [if_neg h]; simp
theorem step_len (f : Fmt) (l : List En) (side : Int) : (stepC f l side).length ≤ 2 * l.length := by
  refine Nat.le_trans (norm_len _) ?_
  unfold stepI
  induction l with
  | nil => simp
  | cons e l ih =>
    have h0 := go_len f side e 0
    have h1 := go_len f side e 1
    rw [List.flatMap_cons, List.length_append, List.length_append, List.length_cons]; omega
theorem iter_len (f : Fmt) (l : List En) : ∀ k, (iterC f l k).length ≤ 2 ^ k * l.length
  | 0 => by simp [iterC]
  | k + 1 => by
    have h1 := step_len f (iterC f l k) (-1)
    have h2 := iter_len f l k
    show (stepC f (iterC f l k) (-1)).length ≤ _
    rw [Nat.pow_succ, Nat.mul_comm (2 ^ k) 2, Nat.mul_assoc]
    omega
theorem missI_len (f : Fmt) (l : List En) (a : Int) : ∀ k, (missI f l a k).length + l.length ≤ 2 ^ k * l.length
  | 0 => by simp [missI]
  | k + 1 => by
    have h1 := missI_len f l a k
    have h2 := iter_len f l k
    have h3 : (if a ≤ (k : Int) then iterC f l k else []).length ≤ (iterC f l k).length := by
      by_cases h : a ≤ (k : Int)
      · rw [if_pos h]; exact Nat.le_refl _
      · rw [if_neg h]; exact Nat.zero_le _
    rw [missI, List.length_append, Nat.pow_succ, Nat.mul_comm (2 ^ k) 2, Nat.mul_assoc]
    omega
def expN (x : Nt) : Nat := 1 + (misN x).toNat
theorem after_len (f : Fmt) (l : List En) (x : Nt) : (afterC f l x).length ≤ 2 ^ expN x * l.length := by
  unfold afterC
  by_cases h1 : x.kind = 1
  · rw [if_pos h1]
    have := step_len f l x.side
    have e : expN x = 1 := by unfold expN misN; rw [decide_eq_false (by omega)]; rfl
    rw [e]; omega
  · rw [if_neg h1]
    by_cases h2 : x.kind = 2
    · rw [if_pos h2]
      have e : expN x = x.pair.2.toNat + 1 := by unfold expN misN; rw [decide_eq_true h2]; show 1 + x.pair.2.toNat = _; omega
      have h3 := missI_len f l x.pair.1 (x.pair.2.toNat + 1)
      have h4 := norm_len (missI f l x.pair.1 (x.pair.2.toNat + 1))
      rw [e]
      show (normC _).length ≤ _
      omega
    · rw [if_neg h2]
      have h3 : (testC f x l).length ≤ l.length := List.length_filter_le ..
      have h4 : 1 ≤ 2 ^ expN x := Nat.one_le_two_pow
      exact Nat.le_trans h3 (Nat.le_mul_of_pos_left _ h4)
def expS (xs : List Nt) : Nat := (xs.map expN).sum
theorem crowd_len (f : Fmt) (cf : Int) (xs : List Nt) : (crowdC f cf xs).length ≤ 2 ^ expS xs * 2 := by
  have key : ∀ (xs : List Nt) (l : List En), (xs.foldl (afterC f) l).length ≤ 2 ^ expS xs * l.length := fun xs => by
    induction xs with
    | nil => intro l; simp [expS]
    | cons x xs ih =>
      intro l
      rw [List.foldl_cons]
      refine Nat.le_trans (ih _) ?_
      have h1 := after_len f l x
      have : expS (x :: xs) = expN x + expS xs := by unfold expS; rw [List.map_cons, List.sum_cons]
      rw [this, Nat.pow_add, Nat.mul_comm (2 ^ expN x), Nat.mul_assoc]
      exact Nat.mul_le_mul_left _ h1
  refine Nat.le_trans (key xs (begC cf)) (Nat.mul_le_mul_left _ ?_)
  unfold begC
  rw [List.length_append]
  have : ∀ (p : Prop) [Decidable p] (e : En), (if p then [e] else []).length ≤ 1 := fun p _ e => by
    by_cases h : p
    · rw [if_pos h]; exact Nat.le_refl _
    · rw [if_neg h]; exact Nat.zero_le _
  have h1 := this (cf = -1 ∨ cf = 0) (⟨0, [], (0, 0), (0, 0)⟩, (0, 0, 0))
  have h2 := this (cf = -1 ∨ cf = 1) (⟨1, [], (0, 0), (0, 0)⟩, (0, 0, 0))
  omega
theorem exp_mis {xs : List Nt} (h : ∀ x ∈ xs, mkV x = true) : (expS xs : Int) = xs.length + misS xs ∧ mostS xs ≤ xs.length + misS xs ∧ 0 ≤ misS xs := by
  induction xs with
  | nil => exact ⟨rfl, Int.le_refl _, Int.le_refl _⟩
  | cons x xs ih =>
    obtain ⟨h1, h2, h3⟩ := ih fun y hy => h y (by simp [hy])
    have hk := mk_kind (h x (by simp))
    have h4 : 0 ≤ misN x ∧ mostN x ≤ 1 + misN x := by
      unfold misN mostN
      by_cases e1 : x.kind = 1
      · rw [decide_eq_false (by omega), if_pos e1]; exact ⟨Int.le_refl _, by show (1 : Int) ≤ 1 + 0; omega⟩
      · rw [if_neg e1]
        by_cases e2 : x.kind = 2
        · have := hk.2.2.1 e2
          rw [decide_eq_true e2, if_pos e2]
          show 0 ≤ x.pair.2 ∧ x.pair.2 ≤ 1 + x.pair.2
          omega
        · rw [decide_eq_false e2, if_neg e2]; exact ⟨Int.le_refl _, by show (0 : Int) ≤ 1 + 0; omega⟩
    have e1 : expS (x :: xs) = expN x + expS xs := by unfold expS; rw [List.map_cons, List.sum_cons]
    have e2 : misS (x :: xs) = misN x + misS xs := by unfold misS; rw [List.map_cons, List.sum_cons]
    have e3 : mostS (x :: xs) = mostN x + mostS xs := by unfold mostS; rw [List.map_cons, List.sum_cons]
    rw [e1, e2, e3, List.length_cons]
    unfold expN
    omega
def farC (f : Fmt) (cf : Int) (xs : List Nt) : Bool := decide ((60 : Int) < xs.length) || (decide (chkC f cf xs = 0) && (decide (8 < misS xs) || decide ((12 : Int) < xs.length)))
def rdyC (f : Fmt) (cf : Int) (xs : List Nt) : Bool := !farC f cf xs && decide (chkC f cf xs = 0)
structure Rdy (f : Fmt) (cf : Int) (xs : List Nt) : Prop where
  c : chkC f cf xs = 0
  n : xs.length ≤ 12
  m : mostS xs ≤ 20
  b : (crowdC f cf xs).length ≤ 4194304
  mks : ∀ x ∈ xs, mkV x = true
  ok : f.Ok
  cf : -1 ≤ cf ∧ cf ≤ 1
  mis : misS xs ≤ 8
theorem rdy_of {f : Fmt} {cf : Int} {xs : List Nt} (h1 : chkC f cf xs = 0) (hn : xs.length ≤ 12) (hm : misS xs ≤ 8) : Rdy f cf xs := by
  obtain ⟨h2, h3, h4, h5, h6, h7⟩ := chk_facts h1
  obtain ⟨e1, e2, e3⟩ := exp_mis h6
  have hl := crowd_len f cf xs
  have he : expS xs ≤ 20 := by omega
  have hp : 2 ^ expS xs ≤ 2 ^ 20 := Nat.pow_le_pow_right (by omega) he
  exact ⟨h1, hn, by omega, by omega, h6, h3, h4, hm⟩
theorem rdy_facts {f : Fmt} {cf : Int} {xs : List Nt} (h : rdyC f cf xs = true) : Rdy f cf xs := by
  unfold rdyC farC at h
  rw [Bool.and_eq_true, Bool.not_eq_true', Bool.or_eq_false_iff, decide_eq_true_eq] at h
  obtain ⟨⟨_, h2⟩, h1⟩ := h
  rw [decide_eq_true h1, Bool.true_and, Bool.or_eq_false_iff, decide_eq_false_iff_not, decide_eq_false_iff_not] at h2
  exact rdy_of h1 (by omega) (by omega)
theorem misS_succ {xs : List Nt} {k : Nat} {x : Nt} (h : xs[k]? = some x) : misS (xs.take (k + 1)) = misS (xs.take k) + misN x := by
  unfold misS
  rw [List.take_add_one, h, List.map_append, List.sum_append]
  show _ + (misN x + 0) = _
  omega
theorem C_law3_Far (f : Fmt) (first : Int) (xs : List Nt) (A : Option Addr) (n c : Nat) (w : World) (h : Rd w A 4 n (encN xs)) (hn : n ≤ 9223372036854775807) : C0 Try.prog 30 [.agg (cardC f first A n c).toArray] w (.bool (farC f first xs)) := by
  have hlen : xs.length = n := by have := h.len; rwa [encN_len] at this
  refine ⟨en Try.func30 Try.ntmps30 ((St.init w).share (e := .ro A 4 n (encN xs)) h rfl rfl rfl) (h := fun F => ?_)⟩
  refine sq (h := ?_)
  refine rg (h := ?_)
  refine bxA (h := fun b0 => ?_)
  refine WL.y (hy := asg) (h := ?_)
  refine nl (h := ?_)
  refine q_seq (h := ?_)
  refine sq (h := ?_)
  refine sq (h := ?_)
  refine rg (h := ?_)
  refine WL.y (hy := (by first | exact fa | exact faE)) (h := ?_)
  refine WL.y (hy := (by first | exact ld | exact ldE)) (h := ?_)
  refine WL.y (hy := lenS) (h := ?_)
  refine WL.y (hy := gtr) (h := ?_)
  refine nl (h := ?_)
  refine q_seq (h := ?_)
  refine cd (by exact rfl) (fun h0 => ?_) (fun h0 => ?_)
  · skip
    have hE : farC f first xs = true := by rw [farC, hlen, show decide ((60 : Int) < n) = true from h0]; rfl
    refine sq (h := ?_)
    refine rg (h := ?_)
    refine WL.y (hy := asg) (h := ?_)
    refine nl (h := ?_)
    refine q_seq (h := ?_)
    refine rtn (h := ?_)
    refine q_then_ret (h := ?_)
    refine q_ret (hR := ?_)
    rw [hE]
    exact fun w hS => ⟨rfl, hS.sub (by repeat (first | exact SubL.nil | (apply SubL.cons; (repeat (first | exact At.here | apply At.there))) | exact SubL.refl _ | apply SubL.skip))⟩
  · skip
    have h60 : decide ((60 : Int) < n) = false := h0
    refine skp (h := ?_)
    refine q_seq (h := ?_)
    refine sq (h := ?_)
    refine sq (h := ?_)
    refine rg (h := ?_)
    refine WL.y (hy := (by first | exact ldA | exact ldEA)) (h := ?_)
    refine cl0 (hc := fun w hS => C_ref3_Check f first xs A n c w (hS.get (by repeat (first | exact Rds.ro | exact Rds.own | apply Rds.there))) hn) (h := ?_)
    refine WL.y (hy := neq) (h := ?_)
    refine nl (h := ?_)
    refine q_seq (h := ?_)
    refine cd (by exact rfl) (fun h1 => ?_) (fun h1 => ?_)
    · skip
      have hcn : chkC f first xs ≠ 0 := by simpa using h1
      have hE : farC f first xs = false := by rw [farC, hlen, h60, decide_eq_false hcn]; rfl
      refine sq (h := ?_)
      refine rg (h := ?_)
      refine WL.y (hy := asg) (h := ?_)
      refine nl (h := ?_)
      refine q_seq (h := ?_)
      refine rtn (h := ?_)
      refine q_then_ret (h := ?_)
      refine q_ret (hR := ?_)
      rw [hE]
      exact fun w hS => ⟨rfl, hS.sub (by repeat (first | exact SubL.nil | (apply SubL.cons; (repeat (first | exact At.here | apply At.there))) | exact SubL.refl _ | apply SubL.skip))⟩
    · skip
      have hcn : chkC f first xs = 0 := by simpa using h1
      obtain ⟨_, _, _, hl30, hmk, _⟩ := chk_facts hcn
      refine skp (h := ?_)
      refine q_seq (h := ?_)
      refine sq (h := ?_)
      refine rg (h := ?_)
      refine WL.y (hy := asg) (h := ?_)
      refine WL.cut (by repeat (first | exact Cut.nil | apply Cut.hit | apply Cut.miss (by exact rfl))) ?_
      refine nl (h := ?_)
      refine q_seq (h := ?_)
      refine sq (h := ?_)
      refine sq (h := ?_)
      refine rg (h := ?_)
      refine WL.y (hy := asg) (h := ?_)
      refine WL.cut (by repeat (first | exact Cut.nil | apply Cut.hit | apply Cut.miss (by exact rfl))) ?_
      refine nl (h := ?_)
      refine q_seq (h := ?_)
      refine bk (h := ?_)
      refine lp (X := CKZ) (I := fun z => z.k ≤ n ∧ 0 ≤ misS (xs.take z.k) ∧ misS (xs.take z.k) ≤ 30 * (z.k : Int)) (le := fun z => [(1, .pointer (some ⟨b0, 0, none⟩)), (3, .int .i64 (misS (xs.take z.k))), (4, .int .i64 z.k)]) (Le := fun z => [.blk b0 26 (cardC f first A n c), .ro A 4 n (encN xs)]) (μ := fun z => n - z.k) ⟨0⟩ ⟨Nat.zero_le _, by exact Int.le_refl _, by exact Int.le_refl _⟩ (by repeat (first | exact trivial | refine ⟨rfl, ?_⟩)) (by repeat (first | exact SubL.nil | (apply SubL.cons; (repeat (first | exact At.here | apply At.there))) | exact SubL.refl _ | apply SubL.skip)) (fun z hz => ?_)
      obtain ⟨hzk, hz0, hzm⟩ := hz
      refine sq (h := ?_)
      refine sq (h := ?_)
      refine rg (h := ?_)
      refine WL.y (hy := mv) (h := ?_)
      refine WL.y (hy := (by first | exact fa | exact faE)) (h := ?_)
      refine WL.y (hy := (by first | exact ld | exact ldE)) (h := ?_)
      refine WL.y (hy := lenS) (h := ?_)
      refine WL.y (hy := lss) (h := ?_)
      refine nl (h := ?_)
      refine q_seq (h := ?_)
      refine cd (by exact rfl) (fun h2 => ?_) (fun h2 => ?_)
      · skip
        have hkn : z.k < n := by simp only [decide_eq_true_eq] at h2; omega
        obtain ⟨x, hx⟩ : ∃ x, xs[z.k]? = some x := ⟨_, List.getElem?_eq_getElem (by omega)⟩
        have hxe := encN_at hx
        have hms := misS_succ hx
        have hxm := mk_kind (hmk x (List.mem_of_getElem? hx))
        refine skp (h := ?_)
        refine q_seq (h := ?_)
        refine sq (h := ?_)
        refine bk (h := ?_)
        refine sq (h := ?_)
        refine rg (h := ?_)
        refine WL.y (hy := (by first | exact fa | exact faE)) (h := ?_)
        refine WL.y (hy := (by first | exact ld | exact ldE)) (h := ?_)
        refine WL.y (hy := mv) (h := ?_)
        refine WL.y (hy := ix (hb := by omega)) (h := ?_)
        refine WL.y (hy := (by first | exact fa | exact faE)) (h := ?_)
        refine WL.y (hy := ldE (hk := hxe)) (h := ?_)
        refine WL.y (hy := eql) (h := ?_)
        refine nl (h := ?_)
        refine q_seq (h := ?_)
        refine cd (by exact rfl) (fun h3 => ?_) (fun h3 => ?_)
        · skip
          have hk2 : x.kind = 2 := of_decide_eq_true h3
          have hmi : misN x = x.pair.2 := by unfold misN; rw [decide_eq_true hk2]; rfl
          have hpb := hxm.2.2.1 hk2
          refine rg (h := ?_)
          refine WL.y (hy := mv) (h := ?_)
          refine WL.y (hy := (by first | exact fa | exact faE)) (h := ?_)
          refine WL.y (hy := (by first | exact ld | exact ldE)) (h := ?_)
          refine WL.y (hy := mv) (h := ?_)
          refine WL.y (hy := ix (hb := by omega)) (h := ?_)
          refine WL.y (hy := (by first | exact fa | exact faE)) (h := ?_)
          refine WL.y (hy := faE) (h := ?_)
          refine WL.y (hy := ldE (hk := hxe)) (h := ?_)
          refine WL.y (hy := addI (hb := by omega)) (h := ?_)
          refine WL.y (hy := asg) (h := ?_)
          refine WL.cut (by repeat (first | exact Cut.nil | apply Cut.hit | apply Cut.miss (by exact rfl))) ?_
          refine nl (h := ?_)
          refine q_blk_norm (h := ?_)
          refine q_seq (h := ?_)
          refine rg (h := ?_)
          refine WL.y (hy := mv) (h := ?_)
          refine WL.y (hy := addI) (h := ?_)
          refine WL.y (hy := asg) (h := ?_)
          refine WL.cut (by repeat (first | exact Cut.nil | apply Cut.hit | apply Cut.miss (by exact rfl))) ?_
          refine nl (h := ?_)
          refine rn (x := z) ⟨z.k + 1⟩ ⟨by dsimp only; omega, by dsimp only; omega, by dsimp only; omega⟩ (by dsimp only; omega) (by dsimp only; rw [hms, hmi]; (try rw [Int.add_zero]); repeat (first | exact trivial | refine ⟨rfl, ?_⟩)) (by repeat (first | exact SubL.nil | (apply SubL.cons; (repeat (first | exact At.here | apply At.there))) | exact SubL.refl _ | apply SubL.skip))
        · skip
          have hmi : misN x = 0 := by unfold misN; rw [h3]; rfl
          refine skp (h := ?_)
          refine q_blk_norm (h := ?_)
          refine q_seq (h := ?_)
          refine rg (h := ?_)
          refine WL.y (hy := mv) (h := ?_)
          refine WL.y (hy := addI) (h := ?_)
          refine WL.y (hy := asg) (h := ?_)
          refine WL.cut (by repeat (first | exact Cut.nil | apply Cut.hit | apply Cut.miss (by exact rfl))) ?_
          refine nl (h := ?_)
          refine rn (x := z) ⟨z.k + 1⟩ ⟨by dsimp only; omega, by dsimp only; omega, by dsimp only; omega⟩ (by dsimp only; omega) (by dsimp only; rw [hms, hmi]; (try rw [Int.add_zero]); repeat (first | exact trivial | refine ⟨rfl, ?_⟩)) (by repeat (first | exact SubL.nil | (apply SubL.cons; (repeat (first | exact At.here | apply At.there))) | exact SubL.refl _ | apply SubL.skip))
      · skip
        have hkn : z.k = n := by simp only [decide_eq_false_iff_not] at h2; omega
        have htk : xs.take z.k = xs := by rw [hkn, ← hlen, List.take_length]
        have hE : farC f first xs = (decide (8 < misS (xs.take z.k)) || decide ((12 : Int) < n)) := by rw [farC, hlen, h60, decide_eq_true hcn, htk]; rfl
        refine et (h := ?_)
        refine q_then_exit (h := ?_)
        refine q_then_exit (h := ?_)
        refine q_blk_hit (h := ?_)
        refine q_seq (h := ?_)
        refine sq (h := ?_)
        refine rg (h := ?_)
        refine WL.y (hy := mv) (h := ?_)
        refine WL.y (hy := gtr) (h := ?_)
        refine WL.y (hy := mv) (h := ?_)
        apply brOr 5 37 42 (by exact rfl)
        · intro hb4
          refine un (h := ?_)
          refine WL.y (hy := (by first | exact fa | exact faE)) (h := ?_)
          refine un (h := ?_)
          refine WL.y (hy := (by first | exact ld | exact ldE)) (h := ?_)
          refine un (h := ?_)
          refine WL.y (hy := lenS) (h := ?_)
          refine un (h := ?_)
          refine WL.y (hy := gtr) (h := ?_)
          refine WL.y (hy := (by first | exact pkT | exact pkF)) (h := ?_)
          exact mg (by repeat (first | exact trivial | refine ⟨rfl, ?_⟩ | refine ⟨by rw [hb4]; rfl, ?_⟩)) (by repeat (first | exact SubL.nil | (apply SubL.cons; (repeat (first | exact At.here | apply At.there))) | exact SubL.refl _ | apply SubL.skip))
        · intro hb4
          repeat (first | refine un (h := ?_) | refine sk (h := ?_) | refine WL.y (hy := pkF) (h := ?_) | refine WL.y (hy := pkT) (h := ?_))
          exact mg (by repeat (first | exact trivial | refine ⟨rfl, ?_⟩ | refine ⟨by rw [hb4]; rfl, ?_⟩)) (by repeat (first | exact SubL.nil | (apply SubL.cons; (repeat (first | exact At.here | apply At.there))) | exact SubL.refl _ | apply SubL.skip))
        refine WL.y (hy := asg) (h := ?_)
        refine nl (h := ?_)
        refine q_seq (h := ?_)
        refine rtn (h := ?_)
        refine q_ret (hR := ?_)
        rw [hE]
        exact fun w hS => ⟨rfl, hS.sub (by repeat (first | exact SubL.nil | (apply SubL.cons; (repeat (first | exact At.here | apply At.there))) | exact SubL.refl _ | apply SubL.skip))⟩
end Go.Proofs.Ytncoimjgjpcipaa

namespace Go.Proofs.Ytncoimjgjpcipaa
open Go Go.RowKit

theorem same_fin {a b : Brd} {n m k : Nat} (hla : a.st.length = n) (hlb : b.st.length = m) (hk : k ≤ n ∧ k ≤ m) (htk : a.st.take k = b.st.take k) (hk2 : ¬ ((k : Int) < n ∧ (k : Int) < m)) : decide (a = b) = (decide ((n : Int) = m) && decide ([a.g.1, a.g.2] = [b.g.1, b.g.2]) && decide ([a.p.1, a.p.2] = [b.p.1, b.p.2])) := by
  rw [Bool.eq_iff_iff, Bool.and_eq_true, Bool.and_eq_true, decide_eq_true_eq, decide_eq_true_eq, decide_eq_true_eq, decide_eq_true_eq, pr_list, pr_list]
  constructor
  · intro e; subst e; exact ⟨⟨by omega, rfl⟩, rfl⟩
  · rintro ⟨⟨h1, h2⟩, h3⟩
    have hkn : k = n := by omega
    have hst : a.st = b.st := by
      rw [List.take_of_length_le (by omega), List.take_of_length_le (by omega)] at htk; exact htk
    cases a; cases b
    simp only at hst h2 h3
    rw [hst, h2, h3]
set_option maxRecDepth 100000 in
theorem C_ref3_SameBoard (a b : Brd) (A B : Option Addr) (n c m d : Nat) (w : World) (h : Rd w A 2 n (encP a.st)) (h' : Rd w B 2 m (encP b.st)) (hn : n ≤ 9223372036854775807) (hm : m ≤ 9223372036854775807) :
    C0 Try.prog 15 [a.val A n c, b.val B m d] w (.bool (decide (a = b))) := by
  have hla : a.st.length = n := by have := h.len; simpa [encP] using this
  have hlb : b.st.length = m := by have := h'.len; simpa [encP] using this
  refine ⟨en Try.func15 Try.ntmps15 (((St.init w).share (e := .ro A 2 n (encP a.st)) h rfl rfl rfl).share (e := .ro B 2 m (encP b.st)) h' rfl rfl rfl) (h := fun F => ?_)⟩
  refine sq (h := ?_)
  refine rg (h := ?_)
  refine bxA (h := fun b0 => ?_)
  refine bxA (h := fun b1 => ?_)
  refine WL.y (hy := asg) (h := ?_)
  refine nl (h := ?_)
  refine q_seq (h := ?_)
  refine sq (h := ?_)
  refine sq (h := ?_)
  refine rg (h := ?_)
  refine WL.y (hy := asg) (h := ?_)
  refine WL.cut (by repeat (first | exact Cut.nil | apply Cut.hit | apply Cut.miss (by exact rfl))) ?_
  refine nl (h := ?_)
  refine q_seq (h := ?_)
  refine bk (h := ?_)
  refine lp (X := Nat) (I := fun k => (k ≤ n ∧ k ≤ m) ∧ a.st.take k = b.st.take k) (le := fun k => [(2, .pointer (some ⟨b0, 0, none⟩)), (3, .pointer (some ⟨b1, 0, none⟩)), (5, .int .i64 k)]) (Le := fun _ => [.blk b0 44 (a.cells A n c), .blk b1 44 (b.cells B m d), .ro A 2 n (encP a.st), .ro B 2 m (encP b.st)]) (μ := fun k => n - k) 0 ⟨⟨Nat.zero_le _, Nat.zero_le _⟩, rfl⟩ (by repeat (first | exact trivial | refine ⟨rfl, ?_⟩)) (by repeat (first | exact SubL.nil | (apply SubL.cons; (repeat (first | exact At.here | apply At.there))) | exact SubL.refl _ | apply SubL.skip)) (fun k hk0 => ?_)
  obtain ⟨hk, htk⟩ := hk0
  refine sq (h := ?_)
  refine sq (h := ?_)
  refine rg (h := ?_)
  refine WL.y (hy := mv) (h := ?_)
  refine WL.y (hy := (by first | exact fa | exact faE)) (h := ?_)
  refine WL.y (hy := (by first | exact ld | exact ldE)) (h := ?_)
  refine WL.y (hy := lenS) (h := ?_)
  refine WL.y (hy := lss) (h := ?_)
  refine WL.y (hy := mv) (h := ?_)
  apply brAnd 6 11 17 (by exact rfl)
  · intro hb0
    refine un (h := ?_)
    refine WL.y (hy := mv) (h := ?_)
    refine un (h := ?_)
    refine WL.y (hy := (by first | exact fa | exact faE)) (h := ?_)
    refine un (h := ?_)
    refine WL.y (hy := (by first | exact ld | exact ldE)) (h := ?_)
    refine un (h := ?_)
    refine WL.y (hy := lenS) (h := ?_)
    refine un (h := ?_)
    refine WL.y (hy := lss) (h := ?_)
    refine WL.y (hy := (by first | exact pkT | exact pkF)) (h := ?_)
    exact mg (by repeat (first | exact trivial | refine ⟨rfl, ?_⟩ | refine ⟨by rw [hb0]; rfl, ?_⟩)) (by repeat (first | exact SubL.nil | (apply SubL.cons; (repeat (first | exact At.here | apply At.there))) | exact SubL.refl _ | apply SubL.skip))
  · intro hb0
    repeat (first | refine un (h := ?_) | refine sk (h := ?_) | refine WL.y (hy := pkF) (h := ?_) | refine WL.y (hy := pkT) (h := ?_))
    exact mg (by repeat (first | exact trivial | refine ⟨rfl, ?_⟩ | refine ⟨by rw [hb0]; rfl, ?_⟩)) (by repeat (first | exact SubL.nil | (apply SubL.cons; (repeat (first | exact At.here | apply At.there))) | exact SubL.refl _ | apply SubL.skip))
  refine nl (h := ?_)
  refine q_seq (h := ?_)
  refine cd (by exact rfl) (fun h1 => ?_) (fun h1 => ?_)
  · skip
    have hk2 : (k : Int) < n ∧ (k : Int) < m := by simpa using h1
    have hkn : k < n := by omega
    have hkm : k < m := by omega
    obtain ⟨p, hp⟩ : ∃ p, a.st[k]? = some p := ⟨_, List.getElem?_eq_getElem (by omega)⟩
    obtain ⟨q, hq⟩ : ∃ q, b.st[k]? = some q := ⟨_, List.getElem?_eq_getElem (by omega)⟩
    have hpe := encP_at hp
    have hqe := encP_at hq
    refine skp (h := ?_)
    refine q_seq (h := ?_)
    refine sq (h := ?_)
    refine bk (h := ?_)
    refine sq (h := ?_)
    refine rgD0 (by kernel_rfl) (h := ?_)
    refine tk 0 (hy := (by first | exact fa | exact faE)) (h := ?_)
    refine tk 1 (hy := (by first | exact ld | exact ldE)) (h := ?_)
    refine tk 2 (hy := mv) (h := ?_)
    refine tk 3 (hy := ix (A := A) (m := n)) (h := ?_)
    refine tk 4 (hy := ldEA (A := A) (hk := hpe)) (h := ?_)
    refine tk 5 (hy := (by first | exact fa | exact faE)) (h := ?_)
    refine tk 6 (hy := (by first | exact ld | exact ldE)) (h := ?_)
    refine tk 7 (hy := mv) (h := ?_)
    refine tk 8 (hy := ix (A := B) (m := m)) (h := ?_)
    refine tk 9 (hy := ldEA (A := B) (hk := hqe)) (h := ?_)
    refine tk 10 (hy := neqT) (h := ?_)
    refine dn (h := ?_)
    refine q_seq (h := ?_)
    refine cd (by exact rfl) (fun h2 => ?_) (fun h2 => ?_)
    · skip
      have hne : ¬ a = b := fun e => by
        subst e
        rw [hp] at hq
        injection hq with hq
        subst hq
        simp at h2
      refine sq (h := ?_)
      refine rg (h := ?_)
      refine WL.y (hy := asg) (h := ?_)
      refine nl (h := ?_)
      refine q_seq (h := ?_)
      refine rtn (h := ?_)
      refine q_blk_ret (h := ?_)
      refine q_then_ret (h := ?_)
      refine q_then_ret (h := ?_)
      refine q_blk_ret (h := ?_)
      refine q_then_ret (h := ?_)
      refine q_ret (hR := ?_)
      first
        | exact fun w hS => ⟨by rw [decide_eq_false hne]; rfl, hS.sub (by repeat (first | exact SubL.nil | (apply SubL.cons; (repeat (first | exact At.here | apply At.there))) | exact SubL.refl _ | apply SubL.skip))⟩
        | (rw [hfin]; exact fun w hS => ⟨rfl, hS.sub (by repeat (first | exact SubL.nil | (apply SubL.cons; (repeat (first | exact At.here | apply At.there))) | exact SubL.refl _ | apply SubL.skip))⟩)
    · skip
      have hpq : p = q := by
        have : [p.1, p.2] = [q.1, q.2] := by simpa using h2
        exact pr_list.1 this
      refine skp (h := ?_)
      refine q_blk_norm (h := ?_)
      refine q_seq (h := ?_)
      refine rg (h := ?_)
      refine WL.y (hy := mv) (h := ?_)
      refine WL.y (hy := addI) (h := ?_)
      refine WL.y (hy := asg) (h := ?_)
      refine WL.cut (by repeat (first | exact Cut.nil | apply Cut.hit | apply Cut.miss (by exact rfl))) ?_
      refine nl (h := ?_)
      refine rn (x := k) (k + 1) ⟨⟨by omega, by omega⟩, by rw [List.take_add_one, List.take_add_one, hp, hq, htk, hpq]⟩ (by omega) (by repeat (first | exact trivial | refine ⟨rfl, ?_⟩)) (by repeat (first | exact SubL.nil | (apply SubL.cons; (repeat (first | exact At.here | apply At.there))) | exact SubL.refl _ | apply SubL.skip))
  · skip
    have hk2 : ¬ ((k : Int) < n ∧ (k : Int) < m) := by simpa using h1
    have hfin : decide (a = b) = (decide ((n : Int) = m) && decide ([a.g.1, a.g.2] = [b.g.1, b.g.2]) && decide ([a.p.1, a.p.2] = [b.p.1, b.p.2])) := same_fin hla hlb hk htk hk2
    refine et (h := ?_)
    refine q_then_exit (h := ?_)
    refine q_then_exit (h := ?_)
    refine q_blk_hit (h := ?_)
    refine q_seq (h := ?_)
    refine sq (h := ?_)
    refine rg (h := ?_)
    refine WL.y (hy := (by first | exact fa | exact faE)) (h := ?_)
    refine WL.y (hy := (by first | exact ld | exact ldE)) (h := ?_)
    refine WL.y (hy := lenS) (h := ?_)
    refine WL.y (hy := (by first | exact fa | exact faE)) (h := ?_)
    refine WL.y (hy := (by first | exact ld | exact ldE)) (h := ?_)
    refine WL.y (hy := lenS) (h := ?_)
    refine WL.y (hy := eql) (h := ?_)
    refine WL.y (hy := mv) (h := ?_)
    apply brAnd 6 38 44 (by exact rfl)
    · intro hb3
      refine un (h := ?_)
      refine WL.y (hy := (by first | exact fa | exact faE)) (h := ?_)
      refine un (h := ?_)
      refine WL.y (hy := (by first | exact ldA | exact ldEA)) (h := ?_)
      refine un (h := ?_)
      refine WL.y (hy := (by first | exact fa | exact faE)) (h := ?_)
      refine un (h := ?_)
      refine WL.y (hy := (by first | exact ldA | exact ldEA)) (h := ?_)
      refine un (h := ?_)
      refine WL.y (hy := eqlT) (h := ?_)
      refine WL.y (hy := (by first | exact pkT | exact pkF)) (h := ?_)
      exact mg (by repeat (first | exact trivial | refine ⟨rfl, ?_⟩ | refine ⟨by rw [hb3]; rfl, ?_⟩)) (by repeat (first | exact SubL.nil | (apply SubL.cons; (repeat (first | exact At.here | apply At.there))) | exact SubL.refl _ | apply SubL.skip))
    · intro hb3
      repeat (first | refine un (h := ?_) | refine sk (h := ?_) | refine WL.y (hy := pkF) (h := ?_) | refine WL.y (hy := pkT) (h := ?_))
      exact mg (by repeat (first | exact trivial | refine ⟨rfl, ?_⟩ | refine ⟨by rw [hb3]; rfl, ?_⟩)) (by repeat (first | exact SubL.nil | (apply SubL.cons; (repeat (first | exact At.here | apply At.there))) | exact SubL.refl _ | apply SubL.skip))
    refine WL.y (hy := mv) (h := ?_)
    apply brAnd 6 45 51 (by exact rfl)
    · intro hb4
      refine un (h := ?_)
      refine WL.y (hy := (by first | exact fa | exact faE)) (h := ?_)
      refine un (h := ?_)
      refine WL.y (hy := (by first | exact ldA | exact ldEA)) (h := ?_)
      refine un (h := ?_)
      refine WL.y (hy := (by first | exact fa | exact faE)) (h := ?_)
      refine un (h := ?_)
      refine WL.y (hy := (by first | exact ldA | exact ldEA)) (h := ?_)
      refine un (h := ?_)
      refine WL.y (hy := eqlT) (h := ?_)
      refine WL.y (hy := (by first | exact pkT | exact pkF)) (h := ?_)
      exact mg (by repeat (first | exact trivial | refine ⟨rfl, ?_⟩ | refine ⟨by rw [hb4]; rfl, ?_⟩)) (by repeat (first | exact SubL.nil | (apply SubL.cons; (repeat (first | exact At.here | apply At.there))) | exact SubL.refl _ | apply SubL.skip))
    · intro hb4
      repeat (first | refine un (h := ?_) | refine sk (h := ?_) | refine WL.y (hy := pkF) (h := ?_) | refine WL.y (hy := pkT) (h := ?_))
      exact mg (by repeat (first | exact trivial | refine ⟨rfl, ?_⟩ | refine ⟨by rw [hb4]; rfl, ?_⟩)) (by repeat (first | exact SubL.nil | (apply SubL.cons; (repeat (first | exact At.here | apply At.there))) | exact SubL.refl _ | apply SubL.skip))
    refine WL.y (hy := asg) (h := ?_)
    refine nl (h := ?_)
    refine q_seq (h := ?_)
    refine rtn (h := ?_)
    refine q_ret (hR := ?_)
    first
      | exact fun w hS => ⟨by rw [decide_eq_false hne]; rfl, hS.sub (by repeat (first | exact SubL.nil | (apply SubL.cons; (repeat (first | exact At.here | apply At.there))) | exact SubL.refl _ | apply SubL.skip))⟩
      | (rw [hfin]; exact fun w hS => ⟨rfl, hS.sub (by repeat (first | exact SubL.nil | (apply SubL.cons; (repeat (first | exact At.here | apply At.there))) | exact SubL.refl _ | apply SubL.skip))⟩)
def exX : List Nt := [⟨1, 0, (0, 0)⟩, ⟨2, 0, (2, 4)⟩, ⟨3, 0, (3, 1)⟩, ⟨2, 0, (1, 1)⟩, ⟨4, 0, (1, 0)⟩]
theorem C_law3_Example (w : World) : CR Try.prog 32 [] w (fun _ : Nat => True) (fun b => .agg (cardC exF 0 (some ⟨b, 0, none⟩) 5 5).toArray) (fun b => [.own (some ⟨b, 0, none⟩) 5 40 4 5 (encN exX)]) := by
  refine ⟨en Try.func32 Try.ntmps32 (St.init w) (h := fun F => ?_)⟩
  refine sq (h := ?_)
  refine rg (h := ?_)
  refine al (h := fun b0 => ?_)
  refine nl (h := ?_)
  refine q_seq (h := ?_)
  refine sq (h := ?_)
  refine rg (h := ?_)
  refine cl (hc := fun w hS => C_law1_Example w) (h := fun x0 _ => ?_)
  refine WL.y (hy := mv) (h := ?_)
  refine WL.y (hy := ex) (h := ?_)
  refine WL.y (hy := ex) (h := ?_)
  refine al (h := fun b1 => ?_)
  first | refine stA (h := ?_) | refine stEA (h := ?_)
  refine WL.y (hy := asg) (h := ?_)
  refine nl (h := ?_)
  refine q_seq (h := ?_)
  refine sq (h := ?_)
  refine rg (h := ?_)
  refine WL.y (hy := (by first | exact ldA | exact ldEA)) (h := ?_)
  refine WL.y (hy := bd) (h := ?_)
  refine WL.y (hy := bd) (h := ?_)
  refine WL.y (hy := bd) (h := ?_)
  refine WL.y (hy := bd) (h := ?_)
  refine WL.y (hy := bd) (h := ?_)
  refine WL.y (hy := bd) (h := ?_)
  refine WL.y (hy := bd) (h := ?_)
  refine WL.y (hy := bd) (h := ?_)
  refine WL.y (hy := bd) (h := ?_)
  refine bs (h := fun b2 => ?_)
  refine WL.y (hy := bd) (h := ?_)
  first | refine stA (h := ?_) | refine stEA (h := ?_)
  refine nl (h := ?_)
  refine q_seq (h := ?_)
  refine rtn (h := ?_)
  refine q_ret (hR := ?_)
  exact fun w hS => ⟨_, trivial, rfl, hS.sub (by repeat (first | exact SubL.nil | (apply SubL.cons; (repeat (first | exact At.here | apply At.there))) | exact SubL.refl _ | apply SubL.skip))⟩
theorem ex_chk : chkC exF 0 exX = 0 := by kernel_rfl
theorem ex_bad : badC exF 0 exX = -1 := by kernel_rfl
theorem ex_most : mostS exX = 6 := by kernel_rfl
theorem ex_boards : boardsC (keyC (crowdC exF 0 exX)) = [⟨[], (1, 0), (0, 0)⟩] := by kernel_rfl
theorem ex_len : (crowdC exF 0 exX).length = 1 := by kernel_rfl
end Go.Proofs.Ytncoimjgjpcipaa

namespace Go.Proofs.Ytncoimjgjpcipaa
open Go Go.RowKit

theorem ex_all : allB exF 0 exX = -1 := by rw [allB, ex_chk, ex_bad]; rfl
theorem ex_pos : posE exF 0 exX = 0 := by rw [posE, ex_chk, ex_bad]; rfl
end Go.Proofs.Ytncoimjgjpcipaa

namespace Go.Proofs.Ytncoimjgjpcipaa
open Go Go.RowKit

theorem chk_of {f : Fmt} {cf : Int} {xs : List Nt} (h1 : chkF f = 0) (h2 : -1 ≤ cf ∧ cf ≤ 1) (h3 : xs.length ≤ 30) (h4 : ∀ x ∈ xs, mkV x = true) (h5 : mostS xs ≤ 600) : chkC f cf xs = 0 := by
  have e1 : headB f cf xs.length = false := by
    unfold headB
    rw [decide_eq_true h1, show wi cf (-1) 1 = true from wi_iff.2 h2, decide_eq_false (by omega)]; rfl
  rw [chkC, e1, List.all_eq_true.2 h4, decide_eq_false (by omega)]; rfl
theorem misN_nn {x : Nt} (h : mkV x = true) : 0 ≤ misN x ∧ 0 ≤ mostN x := by
  have h1 := (exp_mis (xs := [x]) (by simpa using h)).2.2
  have h2 := most_bd h
  exact ⟨by simpa [misS] using h1, by omega⟩
theorem sub_sums {ys xs : List Nt} (hs : ys.Sublist xs) (h : ∀ x ∈ xs, mkV x = true) : misS ys ≤ misS xs ∧ mostS ys ≤ mostS xs := by
  induction hs with
  | slnil => exact ⟨Int.le_refl _, Int.le_refl _⟩
  | @cons l1 l2 a hs ih =>
    obtain ⟨h1, h2⟩ := ih fun x hx => h x (by simp [hx])
    obtain ⟨h3, h4⟩ := misN_nn (h a (by simp))
    have e2 : misS (a :: l2) = misN a + misS l2 := by unfold misS; rw [List.map_cons, List.sum_cons]
    have e3 : mostS (a :: l2) = mostN a + mostS l2 := by unfold mostS; rw [List.map_cons, List.sum_cons]
    omega
  | @cons_cons l1 l2 a hs ih =>
    obtain ⟨h1, h2⟩ := ih fun x hx => h x (by simp [hx])
    have e : ∀ l : List Nt, misS (a :: l) = misN a + misS l ∧ mostS (a :: l) = mostN a + mostS l := fun l => by unfold misS mostS; rw [List.map_cons, List.sum_cons, List.map_cons, List.sum_cons]; exact ⟨rfl, rfl⟩
    have e1 := e l1
    have e2 := e l2
    omega
theorem Rdy.sub {f : Fmt} {cf : Int} {ys xs : List Nt} (h : Rdy f cf xs) (hs : ys.Sublist xs) : Rdy f cf ys := by
  obtain ⟨h1, h2⟩ := sub_sums hs h.mks
  obtain ⟨c1, c2, c3, c4, c5, c6⟩ := chk_facts h.c
  have hn := h.n
  have hm := h.m
  have hi := h.mis
  have hl := hs.length_le
  exact rdy_of (chk_of c1 c3 (by omega) (fun x hx => c5 x (hs.subset hx)) (by omega)) (by omega) (by omega)
theorem Rdy.take {f : Fmt} {cf : Int} {xs : List Nt} (h : Rdy f cf xs) (k : Nat) : Rdy f cf (xs.take k) := h.sub (List.take_sublist _ _)
theorem bad_rng (f : Fmt) (cf : Int) (xs : List Nt) : -1 ≤ badC f cf xs ∧ badC f cf xs < xs.length := by
  unfold badC
  rcases fstC_spec (fun i => (crowdC f cf (xs.take (i + 1))).isEmpty) xs.length with ⟨h1, _⟩ | ⟨k, hk, h1, _⟩ <;> rw [h1] <;> omega
theorem Rdy.pos {f : Fmt} {cf : Int} {xs : List Nt} (h : Rdy f cf xs) : posE f cf xs = if badC f cf xs = -1 then 0 else 3 := by
  have hb := bad_rng f cf xs
  rw [posE, decide_eq_true h.c, cond_true]
  by_cases e : badC f cf xs = -1
  · rw [if_pos e, e]; rfl
  · rw [if_neg e, decide_eq_true (show 0 ≤ badC f cf xs by omega)]; rfl
theorem Rdy.all {f : Fmt} {cf : Int} {xs : List Nt} (h : Rdy f cf xs) : allB f cf xs = badC f cf xs := by rw [allB, decide_eq_true h.c]; rfl

section rules
variable {F : Fence} {P : Program} {ops : Array Oper} {Q : Exit → Act → World → Prop} {rest : List Oper} {n : Nat} {D : List Deferred} {l : Env} {w0 : World} {L M : List Ent}
variable {d : Nat} {ty : TypeId} {pos : String} {aft : Array Edge}
end rules
structure Lsr (f : Fmt) (cf : Int) (xs : List Nt) (cf' : Int) (xs' : List Nt) : Prop where
  len : xs'.length = xs.length
  sub : ∀ s, s ∈ keyC (crowdC f cf xs) → s ∈ keyC (crowdC f cf' xs')
theorem Rdy.bad_key {f : Fmt} {cf : Int} {xs : List Nt} (h : Rdy f cf xs) : badC f cf xs = -1 ↔ ∃ s, s ∈ keyC (crowdC f cf xs) := by
  rw [bad_none h.cf]
  cases hc : crowdC f cf xs with
  | nil => exact ⟨fun e => absurd rfl e, fun ⟨s, hs⟩ => by cases hs⟩
  | cons e l => exact ⟨fun _ => ⟨e.1, by simp [keyC]⟩, fun _ => by simp⟩
theorem Lsr.pos {f : Fmt} {cf cf' : Int} {xs xs' : List Nt} (h : Lsr f cf xs cf' xs') (hR : Rdy f cf xs) (hR' : Rdy f cf' xs') (h0 : posE f cf xs = 0) : posE f cf' xs' = 0 := by
  rw [hR.pos] at h0
  by_cases e : badC f cf xs = -1
  · obtain ⟨s, hs⟩ := hR.bad_key.1 e
    rw [hR'.pos, if_pos (hR'.bad_key.2 ⟨s, h.sub s hs⟩)]
  · rw [if_neg e] at h0; cases h0
def fndX (zs : List BA) (b : Brd) (j : Nat) : Bool := (zs.take j).any fun y => decide (b = y.b)
theorem fnd_succ {zs : List BA} {b : Brd} {j : Nat} {y : BA} (h : zs[j]? = some y) : fndX zs b (j + 1) = (fndX zs b j || decide (b = y.b)) := by
  unfold fndX
  rw [List.take_add_one, h, List.any_append]; simp
theorem fnd_mem {zs : List BA} {b : Brd} (h : b ∈ zs.map (·.b)) : fndX zs b zs.length = true := by
  obtain ⟨y, hy, rfl⟩ := List.mem_map.1 h
  unfold fndX
  rw [List.take_length, List.any_eq_true]
  exact ⟨y, hy, decide_eq_true rfl⟩
theorem BdOk.some_ {f : Fmt} {cf : Int} {xs : List Nt} {o : Option BDR} (h : BdOk f cf xs o) (h0 : posE f cf xs = 0) : ∃ q, o = some q := by
  cases o with
  | none => exact absurd h0 h
  | some q => exact ⟨q, rfl⟩
theorem BdOk.mem {f : Fmt} {cf : Int} {xs : List Nt} {q : BDR} (h : BdOk f cf xs (some q)) (b : Brd) : b ∈ q.zs.map (·.b) ↔ ∃ s ∈ keyC (crowdC f cf xs), brdOf s = b := by
  rw [h.2.1]; exact (boards_facts _).2 b
end Go.Proofs.Ytncoimjgjpcipaa

namespace Go.Proofs.Ytncoimjgjpcipaa
open Go Go.RowKit

structure CW where
  (b : Nat) (ns : List Nd) (es : Array MapEntry) (c : Nat)
def roMs (l : List CW) : Ent := .gen true false (fun k => ∃ q ∈ l, q.b = k) (fun w => ∀ q ∈ l, w.heap[q.b]? = some (.map q.es q.c)) (fun w w' hb h q hq => (hb q.b ⟨q, hq, rfl⟩).trans (h q hq)) (fun w k h ⟨q, hq, e⟩ => by subst e; exact heap_lt (h q hq))
section
variable {w0 w : World} {M : List Ent}
theorem St.nilMs (h : St w0 w M) : St w0 w (roMs [] :: M) := by
  refine ⟨h.below, fun x hx => ?_, fun x hx hf k hk => ?_, List.pairwise_cons.2 ⟨fun x hx ho k hk hk' => ?_, h.sep⟩⟩
  · rcases List.mem_cons.1 hx with rfl | hx
    · exact fun q hq => by cases hq
    · exact h.ok x hx
  · rcases List.mem_cons.1 hx with rfl | hx
    · obtain ⟨q, hq, _⟩ := hk; cases hq
    · exact h.new x hx hf k hk
  · obtain ⟨q, hq, _⟩ := hk; cases hq
theorem St.getMs {l : List CW} {q : CW} (h : St w0 w (roMs l :: M)) (hq : q ∈ l) : St w0 w (roM q.b q.es q.c :: roMs l :: M) := by
  have hp := List.pairwise_cons.1 h.sep
  refine ⟨h.below, fun x hx => ?_, fun x hx hf k hk => ?_, List.pairwise_cons.2 ⟨fun x hx ho k hk hk' => ?_, h.sep⟩⟩
  · rcases List.mem_cons.1 hx with rfl | hx
    · exact h.ok (roMs l) (by simp) q hq
    · exact h.ok x hx
  · rcases List.mem_cons.1 hx with rfl | hx
    · exact h.new (roMs l) (by simp) rfl k ⟨q, hq, hk.symm⟩
    · exact h.new x hx hf k hk
  · rcases List.mem_cons.1 hx with rfl | hx
    · rcases ho with h1 | h1 <;> cases h1
    · exact hp.1 x hx (ho.imp (fun h => h) id) k ⟨q, hq, hk.symm⟩ hk'
theorem St.addMs {l : List CW} {q : CW} (h : St w0 w (roM q.b q.es q.c :: roMs l :: M)) : St w0 w (roMs (l ++ [q]) :: M) := by
  have hp := List.pairwise_cons.1 h.sep
  have hp2 := List.pairwise_cons.1 hp.2
  have hm : ∀ p ∈ l ++ [q], p ∈ l ∨ p = q := fun p hp => by simpa using hp
  refine ⟨h.below, fun x hx => ?_, fun x hx hf k hk => ?_, List.pairwise_cons.2 ⟨fun x hx ho k hk hk' => ?_, hp2.2⟩⟩
  · rcases List.mem_cons.1 hx with rfl | hx
    · intro p hp
      rcases hm p hp with h1 | rfl
      · exact h.ok (roMs l) (by simp) p h1
      · exact h.ok (roM p.b p.es p.c) (by simp)
    · exact h.ok x (by simp [hx])
  · rcases List.mem_cons.1 hx with rfl | hx
    · obtain ⟨p, hp, rfl⟩ := hk
      rcases hm p hp with h1 | rfl
      · exact h.new (roMs l) (by simp) rfl p.b ⟨p, h1, rfl⟩
      · exact h.new (roM p.b p.es p.c) (by simp) rfl p.b rfl
    · exact h.new x (by simp [hx]) hf k hk
  · obtain ⟨p, hpm, rfl⟩ := hk
    rcases hm p hpm with h1 | rfl
    · exact hp2.1 x hx (ho.imp (fun h => h) id) p.b ⟨p, h1, rfl⟩ hk'
    · exact hp.1 x (by simp [hx]) (ho.imp (fun h => h) id) p.b rfl hk'
theorem St.subMs {l l' : List CW} (h : St w0 w (roMs l :: M)) (hs : ∀ q ∈ l', q ∈ l) : St w0 w (roMs l' :: M) := by
  have hp := List.pairwise_cons.1 h.sep
  refine ⟨h.below, fun x hx => ?_, fun x hx hf k hk => ?_, List.pairwise_cons.2 ⟨fun x hx ho k hk hk' => ?_, hp.2⟩⟩
  · rcases List.mem_cons.1 hx with rfl | hx
    · exact fun q hq => h.ok (roMs l) (by simp) q (hs q hq)
    · exact h.ok x (by simp [hx])
  · rcases List.mem_cons.1 hx with rfl | hx
    · obtain ⟨p, hp, rfl⟩ := hk
      exact h.new (roMs l) (by simp) rfl p.b ⟨p, hs p hp, rfl⟩
    · exact h.new x (by simp [hx]) hf k hk
  · obtain ⟨p, hpm, rfl⟩ := hk
    exact hp.1 x hx (ho.imp (fun h => h) id) p.b ⟨p, hs p hpm, rfl⟩ hk'
end
section rules
variable {F : Fence} {P : Program} {Q : Exit → Act → World → Prop} {n : Nat} {D : List Deferred} {l : Env} {w0 : World} {L M : List Ent}
theorem WC.nilMs {c : Code} (h : WC F P c Q n D l w0 (roMs [] :: L)) : WC F P c Q n D l w0 L := fun hF a w hfr hst => h hF a w hfr hst.nilMs
theorem WC.getMs {c : Code} {ms : List CW} (q : CW) (hq : q ∈ ms) (ha : At L (roMs ms) M) (h : WC F P c Q n D l w0 (roM q.b q.es q.c :: roMs ms :: M)) : WC F P c Q n D l w0 L := fun hF a w hfr hst => h hF a w hfr ((hst.pull ha).getMs hq)
theorem WC.addMs {c : Code} {ms : List CW} (q : CW) {M' : List Ent} (ha : At L (roM q.b q.es q.c) M) (hb : At M (roMs ms) M') (h : WC F P c Q n D l w0 (roMs (ms ++ [q]) :: M')) : WC F P c Q n D l w0 L := fun hF a w hfr hst => h hF a w hfr (St.addMs (pull2 ha hb hst))
theorem WC.subMs {c : Code} {ms : List CW} (ms' : List CW) (hs : ∀ q ∈ ms', q ∈ ms) (ha : At L (roMs ms) M) (h : WC F P c Q n D l w0 (roMs ms' :: M)) : WC F P c Q n D l w0 L := fun hF a w hfr hst => h hF a w hfr ((hst.pull ha).subMs hs)
end rules
section rules2
variable {F : Fence} {P : Program} {ops : Array Oper} {Q : Exit → Act → World → Prop} {rest : List Oper} {n : Nat} {D : List Deferred} {l : Env} {w0 : World} {L M : List Ent}
theorem WL.getMs {ms : List CW} (q : CW) (hq : q ∈ ms) (ha : At L (roMs ms) M) (h : WL F P ops Q rest n D l w0 (roM q.b q.es q.c :: roMs ms :: M)) : WL F P ops Q rest n D l w0 L := fun hF a w hfr hst => h hF a w hfr ((hst.pull ha).getMs hq)
end rules2
abbrev CW.v (q : CW) : List Value := [.map (some q.b)]
theorem T_few1 (b : Nat) (es : Array MapEntry) (c : Nat) : Tr Try.prog 57 [.map (some b)] [roM b es c] (fun _ : Unit => True) (fun _ => .bool (decide ((0 : Int) < es.size))) (fun _ => [roM b es c]) := by
  refine ⟨fun w0 w R hst => ?_⟩
  refine en Try.func57 Try.ntmps57 hst (h := fun F => ?_)
  refine sq (h := ?_)
  refine rg (h := ?_)
  refine WL.y (hy := asg) (h := ?_)
  refine WL.cut (by repeat (first | exact Cut.nil | apply Cut.hit | apply Cut.miss (by exact rfl))) ?_
  refine nl (h := ?_)
  refine q_seq (h := ?_)
  refine sq (h := ?_)
  refine rg (h := ?_)
  refine WL.y (hy := mv) (h := ?_)
  refine WL.y (hy := lenR (b := b) (es := es) (c := c)) (h := ?_)
  refine WL.y (hy := gtr) (h := ?_)
  refine WL.y (hy := asg) (h := ?_)
  refine WL.cut (by repeat (first | exact Cut.nil | apply Cut.hit | apply Cut.miss (by exact rfl))) ?_
  refine nl (h := ?_)
  refine q_seq (h := ?_)
  refine rtn (h := ?_)
  refine q_ret (hR := ?_)
  exact fun w hS => ⟨(), trivial, rfl, hS.sub (by repeat (first | exact SubL.nil | (apply SubL.cons; (repeat (first | exact At.here | apply At.there))) | exact SubL.refl _ | apply SubL.skip))⟩
theorem T_IndexC (A : Option Addr) (n c : Nat) (ms : List CW) (hl : ms.length = n) (hn : n ≤ 9223372036854775807) :
    Tr Try.prog 56 [.slice A n c, .func (.func 57) #[] #[]] [.own A c 82 1 n (ms.map CW.v), roMs ms] (Fst (fun k => ms[k]?.any fun q => decide (0 < q.es.size)) n) (fun j => .int .i64 j) (fun _ => [.own A c 82 1 n (ms.map CW.v), roMs ms]) := by
  refine ⟨fun w0 w R hst => ?_⟩
  refine en Try.func56 Try.ntmps56 hst (h := fun F => ?_)
  refine sq (h := ?_)
  refine rg (h := ?_)
  refine WL.y (hy := asg) (h := ?_)
  refine nl (h := ?_)
  refine q_seq (h := ?_)
  refine sq (h := ?_)
  refine sq (h := ?_)
  refine rg (h := ?_)
  refine WL.y (hy := mv) (h := ?_)
  refine WL.y (hy := lenS) (h := ?_)
  refine WL.y (hy := mv) (h := ?_)
  refine nl (h := ?_)
  refine q_seq (h := ?_)
  refine bk (h := ?_)
  refine lp (X := Nat) (I := fun k => k ≤ n ∧ ∀ i, i < k → (ms[i]?.any fun q => decide (0 < q.es.size)) = false) (le := fun k => [(0, .slice A n c), (1, .func (.func 57) #[] #[]), (7, .int .i64 n), (8, .int .i64 k)]) (Le := fun _ => .own A c 82 1 n (ms.map CW.v) :: roMs ms :: R) (μ := fun k => n - k) 0 ⟨by omega, fun i hi => by omega⟩ (by repeat (first | exact trivial | refine ⟨rfl, ?_⟩)) (SubL.refl _) (fun k hk => ?_)
  obtain ⟨hk, hall⟩ := hk
  refine sq (h := ?_)
  refine rg (h := ?_)
  refine WL.y (hy := lss) (h := ?_)
  refine nl (h := ?_)
  refine q_seq (h := ?_)
  refine sq (h := ?_)
  refine cd (by exact rfl) (fun h0 => ?_) (fun h0 => ?_)
  · skip
    have hkn : k < n := by simp only [decide_eq_true_eq] at h0; omega
    obtain ⟨q, hq⟩ : ∃ q, ms[k]? = some q := ⟨_, List.getElem?_eq_getElem (by omega)⟩
    have hes : (ms.map CW.v)[k]? = some q.v := by rw [List.getElem?_map, hq]; rfl
    refine skp (h := ?_)
    refine q_seq (h := ?_)
    refine sq (h := ?_)
    refine bk (h := ?_)
    refine sq (h := ?_)
    refine rg (h := ?_)
    refine WL.y (hy := mv) (h := ?_)
    refine WL.y (hy := asg) (h := ?_)
    refine nl (h := ?_)
    refine q_seq (h := ?_)
    refine sq (h := ?_)
    refine rg (h := ?_)
    refine WL.y (hy := mv) (h := ?_)
    refine WL.y (hy := mv) (h := ?_)
    refine WL.y (hy := mv) (h := ?_)
    refine WL.y (hy := ix (A := A) (m := n) (hb := by omega)) (h := ?_)
    refine WL.y (hy := ldE (A := A) (k := k) (hk := hes)) (h := ?_)
    refine WL.getMs q (List.mem_of_getElem? hq) (by repeat (first | exact At.here | apply At.there)) ?_
    refine clfT inferInstance (fi := []) (cap := []) (by exact rfl) (by repeat (first | exact Evs.nil | (apply Evs.cons; exact rfl))) (T_few1 q.b q.es q.c) rfl (by repeat (first | exact Spl.nil | (apply Spl.cons; (repeat (first | exact At.here | apply At.there))))) (h := fun _ _ => ?_)
    refine nl (h := ?_)
    refine q_seq (h := ?_)
    refine cd (by exact rfl) (fun h1 => ?_) (fun h1 => ?_)
    · skip
      have hqs : decide ((0 : Int) < q.es.size) = true := h1
      refine sq (h := ?_)
      refine rg (h := ?_)
      refine WL.y (hy := mv) (h := ?_)
      refine WL.y (hy := asg) (h := ?_)
      refine nl (h := ?_)
      refine q_seq (h := ?_)
      refine rtn (h := ?_)
      refine q_blk_ret (h := ?_)
      refine q_then_ret (h := ?_)
      refine q_then_ret (h := ?_)
      refine q_blk_ret (h := ?_)
      refine q_then_ret (h := ?_)
      refine q_ret (hR := ?_)
      exact fun w hS => ⟨_, .inl ⟨k, hkn, rfl, by show ms[k]?.any _ = true; rw [hq]; show decide (0 < q.es.size) = true; rw [decide_eq_true_eq] at hqs ⊢; omega, hall⟩, rfl, hS.sub (by repeat (first | exact SubL.nil | (apply SubL.cons; (repeat (first | exact At.here | apply At.there))) | exact SubL.refl _ | apply SubL.skip))⟩
    · skip
      have hqs : decide ((0 : Int) < q.es.size) = false := h1
      refine skp (h := ?_)
      refine q_blk_norm (h := ?_)
      refine q_seq (h := ?_)
      refine rg (h := ?_)
      refine WL.y (hy := addI) (h := ?_)
      refine WL.y (hy := mv) (h := ?_)
      refine nl (h := ?_)
      refine rn (k + 1) ⟨by omega, fun i hi => ?_⟩ (by omega) (by repeat (first | exact trivial | refine ⟨rfl, ?_⟩)) (by repeat (first | exact SubL.nil | (apply SubL.cons; (repeat (first | exact At.here | apply At.there))) | exact SubL.refl _ | apply SubL.skip))
      rcases Nat.lt_succ_iff_lt_or_eq.1 hi with h | rfl
      · exact hall i h
      · rw [hq]; show decide (0 < q.es.size) = false; rw [decide_eq_false_iff_not] at hqs ⊢; omega
  · skip
    have hkn : k = n := by simp only [decide_eq_false_iff_not] at h0; omega
    refine et (h := ?_)
    refine q_then_exit (h := ?_)
    refine q_then_exit (h := ?_)
    refine q_blk_hit (h := ?_)
    refine q_seq (h := ?_)
    refine sq (h := ?_)
    refine rg (h := ?_)
    refine WL.y (hy := asg) (h := ?_)
    refine nl (h := ?_)
    refine q_seq (h := ?_)
    refine rtn (h := ?_)
    refine q_ret (hR := ?_)
    exact fun w hS => ⟨_, .inr ⟨rfl, by subst hkn; exact hall⟩, rfl, hS⟩
end Go.Proofs.Ytncoimjgjpcipaa
