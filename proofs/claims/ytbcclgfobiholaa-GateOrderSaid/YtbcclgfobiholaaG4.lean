/- Walks of gate, four: a queue is opened. -/
import Derived.Test.YtbcclgfobiholaaG3
namespace Go.Proofs.Ytbcclgfobiholaa
open Go Go.RowKit

theorem wrap_u8 {a : Int} (h : 0 ≤ a ∧ a ≤ 255) : IntKind.u8.wrap a = a := by
  simp [IntKind.wrap, IntKind.bits, IntKind.signed]; omega
theorem wrap_u64 {a : Int} (h : 0 ≤ a ∧ a ≤ 1000) : IntKind.u64.wrap a = a := by
  simp [IntKind.wrap, IntKind.bits, IntKind.signed]; omega
theorem C_Len64 (a : Int) (ha : 0 ≤ a ∧ a ≤ 40) (w : World) : CR Try.prog 78 [.int .u64 a] w (fun x : Int => 0 ≤ x ∧ x ≤ 255) (fun x => .int .i64 x) (fun _ => []) := by
  refine ⟨en Try.func78 Try.ntmps78 (St.init w) (h := fun F => ?_)⟩
  refine sq (h := ?_)
  refine rg (h := ?_)
  refine WL.y (hy := asg) (h := ?_)
  refine nl (h := ?_)
  refine q_seq (h := ?_)
  refine sq (h := ?_)
  refine sq (h := ?_)
  refine rg (h := ?_)
  refine WL.y (hy := mv) (h := ?_)
  refine WL.y (hy := (Yd.fl (geq) (by refine decide_eq_false ?_; omega))) (h := ?_)
  refine nl (h := ?_)
  refine q_seq (h := ?_)
  refine cdF (h := ?_)
  refine skp (h := ?_)
  refine q_seq (h := ?_)
  refine sq (h := ?_)
  refine sq (h := ?_)
  refine rg (h := ?_)
  refine WL.y (hy := mv) (h := ?_)
  refine WL.y (hy := (Yd.fl (geq) (by refine decide_eq_false ?_; omega))) (h := ?_)
  refine nl (h := ?_)
  refine q_seq (h := ?_)
  refine cdF (h := ?_)
  refine skp (h := ?_)
  refine q_seq (h := ?_)
  refine sq (h := ?_)
  refine sq (h := ?_)
  refine rg (h := ?_)
  refine WL.y (hy := mv) (h := ?_)
  refine WL.y (hy := (Yd.fl (geq) (by refine decide_eq_false ?_; omega))) (h := ?_)
  refine nl (h := ?_)
  refine q_seq (h := ?_)
  refine cdF (h := ?_)
  refine skp (h := ?_)
  refine q_seq (h := ?_)
  refine sq (h := ?_)
  refine rg (h := ?_)
  refine WL.y (hy := mv) (h := ?_)
  refine WL.y (hy := mv) (h := ?_)
  refine WL.y (hy := cvI (hw := wrap_u8 (by omega))) (h := ?_)
  refine WL.byte (i := a) (by omega) (h := fun bt hbt => ?_)
  refine WL.y (hy := cvI (hw := IntWalk.i64_in _ (by omega))) (h := ?_)
  refine WL.y (hy := addI (hb := by omega)) (h := ?_)
  refine WL.y (hy := asg) (h := ?_)
  refine nl (h := ?_)
  refine q_seq (h := ?_)
  refine rtn (h := ?_)
  refine q_ret (hR := ?_)
  exact fun w hS => ⟨_, by omega, rfl, hS.sub (by repeat (first | exact SubL.nil | (apply SubL.cons; (repeat (first | exact At.here | apply At.there))) | exact SubL.refl _ | apply SubL.skip))⟩
theorem C_Len (a : Int) (ha : 0 ≤ a ∧ a ≤ 40) (w : World) : CR Try.prog 68 [.int .u64 a] w (fun x : Int => 0 ≤ x ∧ x ≤ 255) (fun x => .int .i64 x) (fun _ => []) := by
  refine ⟨en Try.func68 Try.ntmps68 (St.init w) (h := fun F => ?_)⟩
  refine sq (h := ?_)
  refine rg (h := ?_)
  refine WL.y (hy := asg) (h := ?_)
  refine nl (h := ?_)
  refine q_seq (h := ?_)
  refine sq (h := ?_)
  refine cdF (h := ?_)
  refine skp (h := ?_)
  refine q_seq (h := ?_)
  refine sq (h := ?_)
  refine rg (h := ?_)
  refine WL.y (hy := mv) (h := ?_)
  refine cl (hc := fun w hS => C_Len64 a ha w) (h := fun x hx => ?_)
  refine WL.y (hy := asg) (h := ?_)
  refine nl (h := ?_)
  refine q_seq (h := ?_)
  refine rtn (h := ?_)
  refine q_ret (hR := ?_)
  exact fun w hS => ⟨x, hx, rfl, hS.sub (by repeat (first | exact SubL.nil | (apply SubL.cons; (repeat (first | exact At.here | apply At.there))) | exact SubL.refl _ | apply SubL.skip))⟩
theorem T_pdq (q : Qu) (a : QA) (b : Nat) (hq : q.Ok) (xs : List Int) (A : Option Addr) (n c : Nat) (lim : Int) (hlen : xs.length = n) (hn : n ≤ 12) (hr : ∀ x ∈ xs, 0 ≤ x ∧ x < q.gs.length) :
    Tr Try.prog 67 [.slice A n c, .int .i64 0, .int .i64 n, .int .i64 lim, .func (.func 63) #[] #[.pointer (some ⟨b, 0, none⟩)]] (.own A c 3 1 n (enI xs) :: ordL q a b) (fun _ : Unit => True) (fun _ => .tuple #[]) (fun _ => .own A c 3 1 n (enI (sortV (ltQ q.gs) xs)) :: ordL q a b) := by
  refine ⟨fun w0 w R hst => ?_⟩
  refine en Try.func67 Try.ntmps67 hst (h := fun F => ?_)
  refine sq (h := ?_)
  refine rg (h := ?_)
  refine WL.y (hy := asg) (h := ?_)
  refine nl (h := ?_)
  refine q_seq (h := ?_)
  refine sq (h := ?_)
  refine rg (h := ?_)
  refine WL.y (hy := asg) (h := ?_)
  refine nl (h := ?_)
  refine q_seq (h := ?_)
  refine bk (h := ?_)
  refine lp (X := Unit) (I := fun _ => True) (le := fun _ => [(0, .slice A n c), (1, .int .i64 0), (2, .int .i64 n), (4, .func (.func 63) #[] #[.pointer (some ⟨b, 0, none⟩)])]) (Le := fun _ => .own A c 3 1 n (enI xs) :: (ordL q a b ++ R)) (μ := fun _ => 0) () trivial (by repeat (first | exact trivial | refine ⟨rfl, ?_⟩)) (SubL.refl _) (fun _ _ => ?_)
  refine bk (h := ?_)
  refine sq (h := ?_)
  refine rg (h := ?_)
  refine WL.y (hy := mv) (h := ?_)
  refine WL.y (hy := mv) (h := ?_)
  refine WL.y (hy := subI (hb := by omega)) (h := ?_)
  rw [Int.sub_zero]
  refine WL.y (hy := asg) (h := ?_)
  refine nl (h := ?_)
  refine q_seq (h := ?_)
  refine sq (h := ?_)
  refine sq (h := ?_)
  refine rg (h := ?_)
  refine WL.y (hy := mv) (h := ?_)
  refine WL.y (hy := (Yd.tr (leq) (by refine decide_eq_true ?_; omega))) (h := ?_)
  refine nl (h := ?_)
  refine q_seq (h := ?_)
  refine cdT (h := ?_)
  refine sq (h := ?_)
  refine rg (h := ?_)
  refine WL.y (hy := mv) (h := ?_)
  refine WL.y (hy := mv) (h := ?_)
  refine WL.y (hy := mv) (h := ?_)
  refine WL.y (hy := mv) (h := ?_)
  refine clT (hc := T_insertion q a b hq xs A n c hlen (by omega) hr) (hs := (by repeat (first | exact Spl.nil | (apply Spl.cons; (repeat (first | exact At.here | apply At.there)))))) (h := fun _ _ => ?_)
  refine nl (h := ?_)
  refine q_seq (h := ?_)
  refine rtn (h := ?_)
  refine q_then_ret (h := ?_)
  refine q_blk_ret (h := ?_)
  refine q_then_ret (h := ?_)
  refine q_blk_ret (h := ?_)
  refine q_ret (hR := ?_)
  exact fun w hS => ⟨(), trivial, rfl, hS⟩
theorem T_SortFunc (q : Qu) (a : QA) (b : Nat) (hq : q.Ok) (xs : List Int) (A : Option Addr) (n c : Nat) (hlen : xs.length = n) (hn : n ≤ 12) (hr : ∀ x ∈ xs, 0 ≤ x ∧ x < q.gs.length) :
    Tr Try.prog 62 [.slice A n c, .func (.func 63) #[] #[.pointer (some ⟨b, 0, none⟩)]] (.own A c 3 1 n (enI xs) :: ordL q a b) (fun _ : Unit => True) (fun _ => .tuple #[]) (fun _ => .own A c 3 1 n (enI (sortV (ltQ q.gs) xs)) :: ordL q a b) := by
  refine ⟨fun w0 w R hst => ?_⟩
  refine en Try.func62 Try.ntmps62 hst (h := fun F => ?_)
  refine sq (h := ?_)
  refine rg (h := ?_)
  refine WL.y (hy := mv) (h := ?_)
  refine WL.y (hy := lenS) (h := ?_)
  refine WL.y (hy := asg) (h := ?_)
  refine nl (h := ?_)
  refine q_seq (h := ?_)
  refine rg (h := ?_)
  refine WL.y (hy := mv) (h := ?_)
  refine WL.y (hy := mv) (h := ?_)
  refine WL.y (hy := mv) (h := ?_)
  refine WL.y (hy := cvI (hw := wrap_u64 (by omega))) (h := ?_)
  refine cl (hc := fun w hS => C_Len n (by omega) w) (h := fun x hx => ?_)
  refine WL.y (hy := mv) (h := ?_)
  refine clT (hc := T_pdq q a b hq xs A n c x hlen hn hr) (hs := (by repeat (first | exact Spl.nil | (apply Spl.cons; (repeat (first | exact At.here | apply At.there)))))) (h := fun _ _ => ?_)
  refine nl (h := ?_)
  refine q_end (hR := ?_)
  exact fun w hS => ⟨(), trivial, rfl, hS⟩

/-! #### the crowd -/
structure Cr where
  (free passing : Int) (ws inn : List Int)
structure CA where
  (oA wA iA : Option Addr) (oc wc ic : Nat)
abbrev crC (q : Qu) (a : QA) (x : CA) (ord : List Int) (s : Cr) : List Value := [.int .i64 q.opn, .int .i64 q.lo, .int .i64 q.hi, .int .i64 q.seats, .slice a.gA q.gs.length a.gc, .slice a.fA q.fs.length a.fc,
  .slice x.oA ord.length x.oc, .int .i64 s.free, .slice x.wA s.ws.length x.wc, .int .i64 s.passing, .slice x.iA s.inn.length x.ic]
abbrev crE (q : Qu) (a : QA) (x : CA) (ord : List Int) (s : Cr) (b : Nat) : List Ent := [.blk b 85 (crC q a x ord s), .own x.oA x.oc 3 1 ord.length (enI ord), wtE 3 x.wA s.ws.length x.wc s.ws, .own x.iA x.ic 3 1 s.inn.length (enI s.inn)]
def idxs (n : Nat) : List Int := (List.range n).map fun i : Nat => (i : Int)
theorem idxs_succ (n : Nat) : idxs (n + 1) = idxs n ++ [(n : Int)] := by simp [idxs, List.range_succ]
theorem idxs_len (n : Nat) : (idxs n).length = n := by simp [idxs]
theorem idxs_mem {n : Nat} {x : Int} : x ∈ idxs n ↔ 0 ≤ x ∧ x < n := by
  simp only [idxs, List.mem_map, List.mem_range]
  constructor
  · rintro ⟨i, hi, rfl⟩; omega
  · intro h; exact ⟨x.toNat, by omega, by omega⟩
def ordV (q : Qu) : List Int := sortV (ltQ q.gs) (idxs q.gs.length)
theorem ordV_mem {q : Qu} {x : Int} : x ∈ ordV q ↔ 0 ≤ x ∧ x < q.gs.length := by rw [ordV, sortV_mem, idxs_mem]
theorem ordV_len (q : Qu) : (ordV q).length = q.gs.length := by
  have := sortTo_len (ltQ q.gs) (idxs q.gs.length) (idxs q.gs.length).length (Nat.le_refl _)
  rw [ordV, sortV, this, idxs_len]
def open0 (q : Qu) (more : Int) : Cr := ⟨q.seats + more, 0, [], List.replicate q.gs.length (-1)⟩
structure OZ where
  (k : Nat) (oA iA : Option Addr) (oc ic : Nat)
theorem rep_succ (n : Nat) : List.replicate (n + 1) (-1 : Int) = List.replicate n (-1) ++ [-1] := List.replicate_succ'
set_option maxHeartbeats 1000000 in
theorem C_gate_open (q : Qu) (a : QA) (more : Int) (hq : q.Ok) (hn : q.gs.length ≤ 12) (hm : 0 ≤ more ∧ more ≤ 100000) (w : World) (h : QRd w q a) :
    CR Try.prog 55 [q.val a, .int .i64 more] w (fun _ : Nat × CA => True) (fun x => .pointer (some ⟨x.1, 0, none⟩)) (fun x => crE q a x.2 (ordV q) (open0 q more) x.1) := by
  obtain ⟨hg, hf, hgn, hfn⟩ := h
  have hs := hq.s
  refine ⟨en Try.func55 Try.ntmps55 (((St.init w).share (e := .ro a.gA 4 q.gs.length (encPt q.gs)) hg rfl rfl rfl).share (e := .ro a.fA 2 q.fs.length (encF q.fs)) hf rfl rfl rfl) (h := fun F => ?_)⟩
  refine sq (h := ?_)
  refine rg (h := ?_)
  refine bxA (h := fun b0 => ?_)
  refine WL.y (hy := asg) (h := ?_)
  refine nl (h := ?_)
  refine q_seq (h := ?_)
  refine sq (h := ?_)
  refine rg (h := ?_)
  refine WL.y (hy := (by first | exact ldA | exact ldEA)) (h := ?_)
  refine WL.y (hy := (by first | exact fa | exact faE)) (h := ?_)
  refine WL.y (hy := (by first | exact ld | exact ldE)) (h := ?_)
  refine WL.y (hy := mv) (h := ?_)
  refine WL.y (hy := addI (hb := by omega)) (h := ?_)
  refine WL.y (hy := bd) (h := ?_)
  refine bxA (h := fun b1 => ?_)
  refine WL.y (hy := asg) (h := ?_)
  refine nl (h := ?_)
  refine q_seq (h := ?_)
  refine sq (h := ?_)
  refine sq (h := ?_)
  refine WC.nilOwn 3 1 (h := ?_)
  refine WC.nilOwn 3 1 (h := ?_)
  refine rg (h := ?_)
  refine WL.y (hy := (by first | exact fa | exact faE)) (h := ?_)
  refine WL.y (hy := (by first | exact ld | exact ldE)) (h := ?_)
  refine WL.y (hy := lenS) (h := ?_)
  refine WL.y (hy := mv) (h := ?_)
  refine nl (h := ?_)
  refine q_seq (h := ?_)
  refine bk (h := ?_)
  refine lp (X := OZ) (I := fun z => z.k ≤ q.gs.length) (le := fun z => [(2, .pointer (some ⟨b0, 0, none⟩)), (5, .pointer (some ⟨b1, 0, none⟩)), (16, .int .i64 q.gs.length), (17, .int .i64 z.k)]) (Le := fun z => [.blk b0 27 (q.cells a), .blk b1 85 [.int .i64 q.opn, .int .i64 q.lo, .int .i64 q.hi, .int .i64 q.seats, .slice a.gA q.gs.length a.gc, .slice a.fA q.fs.length a.fc, .slice z.oA (idxs z.k).length z.oc, .int .i64 (q.seats + more), .slice none 0 0, .int .i64 0, .slice z.iA (List.replicate z.k (-1 : Int)).length z.ic], .own z.oA z.oc 3 1 (idxs z.k).length (enI (idxs z.k)), .own z.iA z.ic 3 1 (List.replicate z.k (-1 : Int)).length (enI (List.replicate z.k (-1))), .ro a.gA 4 q.gs.length (encPt q.gs), .ro a.fA 2 q.fs.length (encF q.fs)]) (μ := fun z => q.gs.length - z.k) ⟨0, none, none, 0, 0⟩ (Nat.zero_le _) (by repeat (first | exact trivial | refine ⟨rfl, ?_⟩)) (by repeat (first | exact SubL.nil | (apply SubL.cons; (repeat (first | exact At.here | apply At.there))) | exact SubL.refl _ | apply SubL.skip)) (fun z hz => ?_)
  refine sq (h := ?_)
  refine rg (h := ?_)
  refine WL.y (hy := lss) (h := ?_)
  refine nl (h := ?_)
  refine q_seq (h := ?_)
  refine sq (h := ?_)
  refine cd (by exact rfl) (fun h0 => ?_) (fun h0 => ?_)
  · skip
    have hkn : z.k < q.gs.length := by simp only [decide_eq_true_eq] at h0; omega
    have hl1 : (idxs (z.k + 1)).length = (idxs z.k).length + 1 := by simp [idxs_len]
    have hl2 : enI (idxs (z.k + 1)) = enI (idxs z.k) ++ [[.int .i64 z.k]] := by rw [idxs_succ, enI_app]
    have hl3 : (List.replicate (z.k + 1) (-1 : Int)).length = (List.replicate z.k (-1 : Int)).length + 1 := by simp
    have hl4 : enI (List.replicate (z.k + 1) (-1)) = enI (List.replicate z.k (-1)) ++ [[.int .i64 (-1)]] := by rw [rep_succ, enI_app]
    have hil := idxs_len z.k
    have hrl : (List.replicate z.k (-1 : Int)).length = z.k := by simp
    refine skp (h := ?_)
    refine q_seq (h := ?_)
    refine sq (h := ?_)
    refine bk (h := ?_)
    refine sq (h := ?_)
    refine rg (h := ?_)
    refine WL.y (hy := mv) (h := ?_)
    refine WL.y (hy := asg) (h := ?_)
    refine nl (h := ?_)
    refine q_seq (h := ?_)
    refine sq (h := ?_)
    refine rg (h := ?_)
    refine WL.y (hy := mv) (h := ?_)
    refine WL.y (hy := mv) (h := ?_)
    refine WL.y (hy := nck) (h := ?_)
    refine WL.y (hy := (by first | exact fa | exact faE)) (h := ?_)
    refine WL.y (hy := (by first | exact ld | exact ldE)) (h := ?_)
    refine WL.y (hy := mv) (h := ?_)
    refine bs (h := fun b2 => ?_)
    refine ap (A := z.oA) (h := fun A1 c1 => ?_)
    refine WL.y (hy := nck) (h := ?_)
    refine WL.y (hy := (by first | exact fa | exact faE)) (h := ?_)
    first | refine st (h := ?_) | refine stE (h := ?_)
    refine nl (h := ?_)
    refine q_seq (h := ?_)
    refine rg (h := ?_)
    refine WL.y (hy := mv) (h := ?_)
    refine WL.y (hy := mv) (h := ?_)
    refine WL.y (hy := nck) (h := ?_)
    refine WL.y (hy := (by first | exact fa | exact faE)) (h := ?_)
    refine WL.y (hy := (by first | exact ld | exact ldE)) (h := ?_)
    refine bs (h := fun b3 => ?_)
    refine ap (A := z.iA) (h := fun A2 c2 => ?_)
    refine WL.y (hy := nck) (h := ?_)
    refine WL.y (hy := (by first | exact fa | exact faE)) (h := ?_)
    first | refine st (h := ?_) | refine stE (h := ?_)
    refine nl (h := ?_)
    refine q_blk_norm (h := ?_)
    refine q_seq (h := ?_)
    refine rg (h := ?_)
    refine WL.y (hy := addI) (h := ?_)
    refine WL.y (hy := mv) (h := ?_)
    refine nl (h := ?_)
    refine rn (x := z) ⟨z.k + 1, A1, A2, c1, c2⟩ (by dsimp only; omega) (by dsimp only; omega) (by repeat (first | exact trivial | refine ⟨rfl, ?_⟩)) (by dsimp only; rw [hl1, hl2, hl3, hl4]; repeat (first | exact SubL.nil | (apply SubL.cons; (repeat (first | exact At.here | apply At.there))) | exact SubL.refl _ | apply SubL.skip))
  · skip
    have hkn : z.k = q.gs.length := by simp only [decide_eq_false_iff_not] at h0; omega
    rw [hkn]
    refine et (h := ?_)
    refine q_then_exit (h := ?_)
    refine q_then_exit (h := ?_)
    refine q_blk_hit (h := ?_)
    refine q_seq (h := ?_)
    refine sq (h := ?_)
    refine rg (h := ?_)
    refine WL.y (hy := mv) (h := ?_)
    refine WL.y (hy := nck) (h := ?_)
    refine WL.y (hy := (by first | exact fa | exact faE)) (h := ?_)
    refine WL.y (hy := (by first | exact ld | exact ldE)) (h := ?_)
    refine WL.y (hy := mkf) (h := ?_)
    refine clT (hc := T_SortFunc q a b0 hq (idxs q.gs.length) z.oA (idxs q.gs.length).length z.oc rfl (by rw [idxs_len]; exact hn) (fun x hx => idxs_mem.1 hx)) (hs := (by repeat (first | exact Spl.nil | (apply Spl.cons; (repeat (first | exact At.here | apply At.there)))))) (h := fun _ _ => ?_)
    refine nl (h := ?_)
    refine q_seq (h := ?_)
    refine sq (h := ?_)
    refine rg (h := ?_)
    refine WL.y (hy := mv) (h := ?_)
    refine WL.y (hy := asg) (h := ?_)
    refine nl (h := ?_)
    refine q_seq (h := ?_)
    refine rtn (h := ?_)
    refine q_ret (hR := ?_)
    exact fun w hS => ⟨(b1, ⟨z.oA, none, z.iA, z.oc, 0, z.ic⟩), trivial, rfl, by
      have hS2 := hS.wtNil 3
      have e1 : (ordV q).length = (idxs q.gs.length).length := by rw [ordV_len, idxs_len]
      dsimp only [crE, crC, open0]
      rw [e1]
      exact hS2.sub (by repeat (first | exact SubL.nil | (apply SubL.cons; (repeat (first | exact At.here | apply At.there))) | exact SubL.refl _ | apply SubL.skip))⟩
end Go.Proofs.Ytbcclgfobiholaa
