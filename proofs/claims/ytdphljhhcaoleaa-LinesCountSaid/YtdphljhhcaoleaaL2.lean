/- Walks of 'lines', two: all centres, the truths, what is known. -/
import Derived.Test.YtdphljhhcaoleaaL1
namespace Go.Proofs.Ytdphljhhcaoleaa
open Go Go.RowKit

theorem It_all1 (v : View) (A : Option Addr) (n c b : Nat) (hv : v.Near) : It Try.prog 81 (fun y => [] ++ [y] ++ [.pointer (some ⟨b, 0, none⟩)]) [.blk b 26 (v.cells A n c), .ro A 4 n v.enc] (v.m * v.m) (fun _ (_ : Option Addr × Nat) => True)
    (fun k p => [.agg #[.int .i64 (ctr v k).1, .int .i64 (ctr v k).2], .slice p.1 (wrongs v (ctr v k).1 (ctr v k).2).length p.2]) (fun k p => [.own p.1 p.2 3 1 (wrongs v (ctr v k).1 (ctr v k).2).length (encI (wrongs v (ctr v k).1 (ctr v k).2))]) := by
  refine ⟨fun {Y} ψ J ψx Jx w0 w lb y0 h0 hst hround => ?_⟩
  have hmi := m_int hv
  have hml := m_le hv
  have hs0 := hv.s0
  refine enM (vs := [.func (.yield lb) #[] #[], .pointer (some ⟨b, 0, none⟩)]) Try.func81 Try.ntmps81 hst (h := ?_)
  refine sq (h := ?_)
  refine rg (h := ?_)
  refine WL.y (hy := (by first | exact fa | exact faE)) (h := ?_)
  refine WL.y (hy := (by first | exact ld | exact ldE)) (h := ?_)
  refine WL.y (hy := addI) (h := ?_)
  refine WL.y (hy := mv) (h := ?_)
  refine nl (h := ?_)
  refine q_seq (h := ?_)
  refine bk (h := ?_)
  refine lp (X := LY Y) (I := fun z => z.k ≤ v.m ∧ ψ (z.k * v.m) z.y) (le := fun z => [(0, .func (.yield lb) #[] #[]), (1, .pointer (some ⟨b, 0, none⟩)), (7, .int .i64 (v.size + 1)), (8, .int .i64 z.k)]) (Le := fun z => .blk b 26 (v.cells A n c) :: .ro A 4 n v.enc :: J (z.k * v.m) z.y) (μ := fun z => v.m - z.k) ⟨0, y0⟩ ⟨by dsimp only; omega, by simpa using h0⟩ (by repeat (first | exact trivial | refine ⟨rfl, ?_⟩)) (by simp only [Nat.zero_mul]; exact SubL.refl _) (fun z hz => ?_)
  obtain ⟨hk, hy⟩ := hz
  refine sq (h := ?_)
  refine rg (h := ?_)
  refine WL.y (hy := lss) (h := ?_)
  refine nl (h := ?_)
  refine q_seq (h := ?_)
  refine sq (h := ?_)
  refine cd (by exact rfl) (fun h0 => ?_) (fun h0 => ?_)
  · skip
    have hkm : z.k < v.m := by simp only [decide_eq_true_eq] at h0; omega
    refine skp (h := ?_)
    refine q_seq (h := ?_)
    refine sq (h := ?_)
    refine bk (h := ?_)
    refine sq (h := ?_)
    refine rg (h := ?_)
    refine WL.y (hy := mv) (h := ?_)
    refine WL.y (hy := asg) (h := ?_)
    refine nl (h := ?_)
    refine q_seq (h := ?_)
    refine sq (h := ?_)
    refine rg (h := ?_)
    refine WL.y (hy := (by first | exact fa | exact faE)) (h := ?_)
    refine WL.y (hy := (by first | exact ld | exact ldE)) (h := ?_)
    refine WL.y (hy := addI) (h := ?_)
    refine WL.y (hy := mv) (h := ?_)
    refine nl (h := ?_)
    refine q_seq (h := ?_)
    refine bk (h := ?_)
    refine lp (X := LY Y) (I := fun u => u.k ≤ v.m ∧ ψ (z.k * v.m + u.k) u.y) (le := fun u => [(0, .func (.yield lb) #[] #[]), (1, .pointer (some ⟨b, 0, none⟩)), (7, .int .i64 (v.size + 1)), (8, .int .i64 z.k), (3, .int .i64 z.k), (13, .int .i64 (v.size + 1)), (14, .int .i64 u.k)]) (Le := fun u => .blk b 26 (v.cells A n c) :: .ro A 4 n v.enc :: J (z.k * v.m + u.k) u.y) (μ := fun u => v.m - u.k) ⟨0, z.y⟩ ⟨by dsimp only; omega, hy⟩ (by repeat (first | exact trivial | refine ⟨rfl, ?_⟩)) (SubL.refl _) (fun u hu => ?_)
    obtain ⟨huk, hu⟩ := hu
    refine sq (h := ?_)
    refine rg (h := ?_)
    refine WL.y (hy := lss) (h := ?_)
    refine nl (h := ?_)
    refine q_seq (h := ?_)
    refine sq (h := ?_)
    refine cd (by exact rfl) (fun h1 => ?_) (fun h1 => ?_)
    · skip
      have hjl : u.k < v.m := by simp only [decide_eq_true_eq] at h1; omega
      refine skp (h := ?_)
      refine q_seq (h := ?_)
      refine sq (h := ?_)
      refine bk (h := ?_)
      refine sq (h := ?_)
      refine rg (h := ?_)
      refine WL.y (hy := mv) (h := ?_)
      refine WL.y (hy := asg) (h := ?_)
      refine nl (h := ?_)
      refine q_seq (h := ?_)
      refine sq (h := ?_)
      refine rg (h := ?_)
      refine WL.y (hy := mv) (h := ?_)
      refine WL.y (hy := mv) (h := ?_)
      refine WL.y (hy := mv) (h := ?_)
      refine WL.y (hy := bd) (h := ?_)
      refine WL.y (hy := (by first | exact ldA | exact ldEA)) (h := ?_)
      refine WL.y (hy := mv) (h := ?_)
      refine WL.y (hy := mv) (h := ?_)
      refine cl (hc := fun w hS => C_lines_wrong _ _ _ _ _ _ w (hS.get (by repeat (first | exact Rds.ro | exact Rds.own | apply Rds.there))) ‹_› (by omega) (by omega)) (h := fun x0 _ => ?_)
      refine yl (lb := lb) (Z := Bool × Y) (Φ := fun r => cond r.1 (ψ (z.k * v.m + u.k + 1) r.2) (ψx r.2)) (val := fun r => .bool r.1) (post := fun r => cond r.1 (.blk b 26 (v.cells A n c) :: .ro A 4 n v.enc :: J (z.k * v.m + u.k + 1) r.2) (.blk b 26 (v.cells A n c) :: .ro A 4 n v.enc :: Jx r.2)) (by exact rfl) (by repeat (first | exact Evs.nil | (apply Evs.cons; exact rfl))) rfl (fun w hS => ?_) (fun r hr => ?_)
      · have hround := hround (z.k * v.m + u.k) x0 u.y w (ctr_in hkm hjl) trivial hu
        simp only [ctr_eq hjl] at hround
        obtain ⟨fn, tmps, asg, bo, hy, hR⟩ := hround hS
        refine ⟨fn, tmps, asg, bo, hy, hR.mono fun e w' he => ?_⟩
        rcases he with ⟨rfl, y, hy, hs⟩ | ⟨rfl, y, hy, hs⟩
        · exact ⟨(true, y), hy, rfl, hs⟩
        · exact ⟨(false, y), hy, rfl, hs⟩
      refine WL.y (hy := notB) (h := ?_)
      refine nl (h := ?_)
      refine q_seq (h := ?_)
      refine cd (by exact rfl) (fun h2 => ?_) (fun h2 => ?_)
      · skip
        obtain ⟨rb, ry⟩ := r
        obtain rfl : rb = false := by simpa using h2
        refine rtn (h := ?_)
        refine q_blk_ret (h := ?_)
        refine q_then_ret (h := ?_)
        refine q_then_ret (h := ?_)
        refine q_blk_ret (h := ?_)
        refine q_blk_ret (h := ?_)
        refine q_then_ret (h := ?_)
        refine q_then_ret (h := ?_)
        refine q_blk_ret (h := ?_)
        refine q_retM0 (hR := ?_)
        exact fun w hS => ⟨_, rfl, .inr ⟨ry, hr, hS⟩⟩
      · skip
        obtain ⟨rb, ry⟩ := r
        obtain rfl : rb = true := by simpa using h2
        refine skp (h := ?_)
        refine q_blk_norm (h := ?_)
        refine q_seq (h := ?_)
        refine rg (h := ?_)
        refine WL.y (hy := addI) (h := ?_)
        refine WL.y (hy := mv) (h := ?_)
        refine nl (h := ?_)
        refine rn (x := u) ⟨u.k + 1, ry⟩ ⟨by dsimp only; omega, hr⟩ (by dsimp only; omega) (by repeat (first | exact trivial | refine ⟨rfl, ?_⟩)) (SubL.refl _)
    · skip
      have hjm : u.k = v.m := by simp only [decide_eq_false_iff_not] at h1; omega
      refine et (h := ?_)
      refine q_then_exit (h := ?_)
      refine q_then_exit (h := ?_)
      refine q_blk_hit (h := ?_)
      refine q_blk_norm (h := ?_)
      refine q_seq (h := ?_)
      refine rg (h := ?_)
      refine WL.y (hy := addI) (h := ?_)
      refine WL.y (hy := mv) (h := ?_)
      refine nl (h := ?_)
      refine rn (x := z) ⟨z.k + 1, u.y⟩ ⟨by dsimp only; omega, by dsimp only; rw [Nat.succ_mul]; exact hjm ▸ hu⟩ (by dsimp only; omega) (by repeat (first | exact trivial | refine ⟨rfl, ?_⟩)) (by dsimp only; rw [Nat.succ_mul, ← hjm]; exact SubL.refl _)
  · skip
    have hkm : z.k = v.m := by simp only [decide_eq_false_iff_not] at h0; omega
    refine et (h := ?_)
    refine q_then_exit (h := ?_)
    refine q_then_exit (h := ?_)
    refine q_blk_hit (h := ?_)
    refine q_endM0 (hR := ?_)
    exact fun w hS => ⟨_, rfl, .inl ⟨z.y, by rw [hkm] at hy; exact hy, by rw [hkm] at hS; exact hS⟩⟩
theorem C_lines_truths (v : View) (A : Option Addr) (n c : Nat) (w : World) (h : Rd w A 4 n v.enc) (hv : v.Near) :
    CR Try.prog 51 [v.val A n c] w (fun _ : Option Addr × Nat => True) (fun p => .slice p.1 (trus v).length p.2) (fun p => [.own p.1 p.2 85 2 (trus v).length (encP (trus v))]) := by
  have hmm := mm_le hv
  refine ⟨enM Try.func51 Try.ntmps51 ((St.init w).share (e := .ro A 4 n v.enc) h rfl rfl rfl) (h := ?_)⟩
  refine sq (h := ?_)
  refine rg (h := ?_)
  refine bxA (h := fun b0 => ?_)
  refine WL.y (hy := asg) (h := ?_)
  refine nl (h := ?_)
  refine q_seq (h := ?_)
  refine sq (h := ?_)
  refine rg (h := ?_)
  refine al (h := fun b1 => ?_)
  refine WL.nilOwn 85 2 (h := ?_)
  refine nl (h := ?_)
  refine q_seq (h := ?_)
  refine sq (h := ?_)
  refine sq (h := ?_)
  refine rg (h := ?_)
  refine WL.y (hy := (by first | exact ldA | exact ldEA)) (h := ?_)
  refine cl (hc := fun w hS => C_lines_all _ _ _ _ w) (h := fun x0 _ => ?_)
  refine nl (h := ?_)
  refine q_seq (h := ?_)
  refine bk (h := ?_)
  refine rf (f := 81) inferInstance (fun k (z : LS) => z.es = encP (truTo v k) ∧ z.m = (truTo v k).length) (fun k z => [.blk b1 81 [.slice z.A z.m z.c], .own z.A z.c 85 2 z.m z.es, .blk b0 26 (v.cells A n c)]) (fun _ => False) (fun _ => .skip) (fun _ => []) ⟨0, 0, [], none, 0⟩ (It_all1 v A n c x0 hv) (by exact rfl) (fun _ _ => rfl) (by rfl) ⟨rfl, rfl⟩ (by repeat (first | exact SubL.nil | (apply SubL.cons; (repeat (first | exact At.here | apply At.there))))) (fun fn tmps lb rb k p z hk hφ hz => ?_) (fun rb z hz => ?_) (fun _ _ h => h.elim)
  · skip
    obtain ⟨hes, hm⟩ := hz
    have hml := truTo_len v k
    refine sq (h := ?_)
    refine rg (h := ?_)
    refine al (h := fun b2 => ?_)
    first | refine stA (h := ?_) | refine stEA (h := ?_)
    refine nl (h := ?_)
    refine q_seq (h := ?_)
    refine rg (h := ?_)
    refine WL.y (hy := asg) (h := ?_)
    refine nl (h := ?_)
    refine bgn (h := ?_)
    refine bk (h := ?_)
    refine sq (h := ?_)
    refine rg (h := ?_)
    refine WL.y (hy := mv) (h := ?_)
    refine WL.y (hy := lenS) (h := ?_)
    refine WL.y (hy := (by first | exact fa | exact faE)) (h := ?_)
    refine WL.y (hy := (by first | exact ld | exact ldE)) (h := ?_)
    refine WL.y (hy := leq) (h := ?_)
    refine nl (h := ?_)
    refine q_seq (h := ?_)
    refine cd (by exact rfl) (fun h0 => ?_) (fun h0 => ?_)
    · skip
      have h0' : tru v (ctr v k) = true := h0
      refine rg (h := ?_)
      refine WL.y (hy := (by first | exact ld | exact ldE)) (h := ?_)
      refine WL.y (hy := (by first | exact ldA | exact ldEA)) (h := ?_)
      refine bs (h := fun b3 => ?_)
      first | refine ap (h := fun A1 c1 => ?_) | refine ap0 (h := fun A1 c1 => ?_)
      first | refine st (h := ?_) | refine stE (h := ?_)
      refine nl (h := ?_)
      refine q_blk_norm (h := ?_)
      first
        | refine rdN (y := ⟨0, z.m + 1, z.es ++ [[.int .i64 (ctr v k).1, .int .i64 (ctr v k).2]], _, _⟩) ⟨by dsimp only; rw [truTo, h0', hes, encP_app]; rfl, by dsimp only; rw [truTo, h0', hm, cond_true, List.length_append]; rfl⟩ (hs := (by repeat (first | exact SubL.nil | (apply SubL.cons; (repeat (first | exact At.here | apply At.there))))))
        | refine rdN (y := z) ⟨by rw [truTo, h0', hes]; rfl, by rw [truTo, h0', hm]; rfl⟩ (hs := (by repeat (first | exact SubL.nil | (apply SubL.cons; (repeat (first | exact At.here | apply At.there))))))
    · skip
      have h0' : tru v (ctr v k) = false := h0
      refine skp (h := ?_)
      refine q_blk_norm (h := ?_)
      first
        | refine rdN (y := ⟨0, z.m + 1, z.es ++ [[.int .i64 (ctr v k).1, .int .i64 (ctr v k).2]], _, _⟩) ⟨by dsimp only; rw [truTo, h0', hes, encP_app]; rfl, by dsimp only; rw [truTo, h0', hm, cond_true, List.length_append]; rfl⟩ (hs := (by repeat (first | exact SubL.nil | (apply SubL.cons; (repeat (first | exact At.here | apply At.there))))))
        | refine rdN (y := z) ⟨by rw [truTo, h0', hes]; rfl, by rw [truTo, h0', hm]; rfl⟩ (hs := (by repeat (first | exact SubL.nil | (apply SubL.cons; (repeat (first | exact At.here | apply At.there))))))
  obtain ⟨hes, hm⟩ := hz
  refine q_blk_norm (h := ?_)
  refine q_seq (h := ?_)
  refine sq (h := ?_)
  refine rg (h := ?_)
  refine WL.y (hy := (by first | exact ld | exact ldE)) (h := ?_)
  refine WL.y (hy := asg) (h := ?_)
  refine nl (h := ?_)
  refine q_seq (h := ?_)
  refine rtn (h := ?_)
  refine q_retM (hR := ?_)
  exact fun w hS => ⟨(z.A, z.c), trivial, by rw [hm]; rfl, by rw [hm, hes] at hS; exact hS.sub (by repeat (first | exact SubL.nil | (apply SubL.cons; (repeat (first | exact At.here | apply At.there)))))⟩
/-! #### slices.IndexFunc, ContainsFunc of points -/
theorem C_IndexFuncP {A : Option Addr} {n c : Nat} {es : List (List Value)} {g : FuncId} (hg : FnOk Try.prog g) (fi cap : List Value) (Lp : List Ent) (p : Nat → Bool) (hn : n ≤ 9223372036854775807)
    (hp : ∀ k cs, es[k]? = some cs → Tr Try.prog g (fi ++ [.agg cs.toArray] ++ cap) (.ro A 2 n es :: Lp) (fun _ : Unit => True) (fun _ => .bool (p k)) (fun _ => .ro A 2 n es :: Lp)) :
    Tr Try.prog 84 [.slice A n c, .func (.func g) fi.toArray cap.toArray] (.ro A 2 n es :: Lp) (Fst p n) (fun j => .int .i64 j) (fun _ => .ro A 2 n es :: Lp) := by
  refine ⟨fun w0 w R hst => ?_⟩
  have hlen : es.length = n := (hst.ok (.ro A 2 n es) (by simp)).len
  refine en Try.func84 Try.ntmps84 hst (h := fun F => ?_)
  refine sq (h := ?_)
  refine rg (h := ?_)
  refine WL.y (hy := asg) (h := ?_)
  refine nl (h := ?_)
  refine q_seq (h := ?_)
  refine sq (h := ?_)
  refine sq (h := ?_)
  refine rg (h := ?_)
  refine WL.y (hy := mv) (h := ?_)
  refine WL.y (hy := lenS) (h := ?_)
  refine WL.y (hy := mv) (h := ?_)
  refine nl (h := ?_)
  refine q_seq (h := ?_)
  refine bk (h := ?_)
  refine lp (X := Nat) (I := fun k => k ≤ n ∧ ∀ i, i < k → p i = false) (le := fun k => [(0, .slice A n c), (1, .func (.func g) fi.toArray cap.toArray), (7, .int .i64 n), (8, .int .i64 k)]) (Le := fun _ => .ro A 2 n es :: (Lp ++ R)) (μ := fun k => n - k) 0 ⟨by omega, fun i hi => by omega⟩ (by repeat (first | exact trivial | refine ⟨rfl, ?_⟩)) (SubL.refl _) (fun k hk => ?_)
  obtain ⟨hk, hall⟩ := hk
  refine sq (h := ?_)
  refine rg (h := ?_)
  refine WL.y (hy := lss) (h := ?_)
  refine nl (h := ?_)
  refine q_seq (h := ?_)
  refine sq (h := ?_)
  refine cd (by exact rfl) (fun h0 => ?_) (fun h0 => ?_)
  · skip
    have hkn : k < n := by simp only [decide_eq_true_eq] at h0; omega
    have hes : es[k]? = some es[k] := List.getElem?_eq_getElem (by omega)
    refine skp (h := ?_)
    refine q_seq (h := ?_)
    refine sq (h := ?_)
    refine bk (h := ?_)
    refine sq (h := ?_)
    refine rg (h := ?_)
    refine WL.y (hy := mv) (h := ?_)
    refine WL.y (hy := asg) (h := ?_)
    refine nl (h := ?_)
    refine q_seq (h := ?_)
    refine sq (h := ?_)
    refine rg (h := ?_)
    refine WL.y (hy := mv) (h := ?_)
    refine WL.y (hy := mv) (h := ?_)
    refine WL.y (hy := mv) (h := ?_)
    refine WL.y (hy := ix) (h := ?_)
    refine WL.y (hy := ldEW (k := k) (cs := es[k]) (hk := hes)) (h := ?_)
    refine clfT hg (fi := fi) (cap := cap) (by exact rfl) (by repeat (first | exact Evs.nil | (apply Evs.cons; exact rfl))) (hp k _ hes) rfl (Spl.cons .here (Spl.app _ _)) (h := fun _ _ => ?_)
    refine nl (h := ?_)
    refine q_seq (h := ?_)
    refine cd (by exact rfl) (fun h1 => ?_) (fun h1 => ?_)
    · skip
      refine sq (h := ?_)
      refine rg (h := ?_)
      refine WL.y (hy := mv) (h := ?_)
      refine WL.y (hy := asg) (h := ?_)
      refine nl (h := ?_)
      refine q_seq (h := ?_)
      refine rtn (h := ?_)
      refine q_blk_ret (h := ?_)
      refine q_then_ret (h := ?_)
      refine q_then_ret (h := ?_)
      refine q_blk_ret (h := ?_)
      refine q_then_ret (h := ?_)
      refine q_ret (hR := ?_)
      exact fun w hS => ⟨_, .inl ⟨k, hkn, rfl, by assumption, hall⟩, rfl, hS⟩
    · skip
      refine skp (h := ?_)
      refine q_blk_norm (h := ?_)
      refine q_seq (h := ?_)
      refine rg (h := ?_)
      refine WL.y (hy := addI) (h := ?_)
      refine WL.y (hy := mv) (h := ?_)
      refine nl (h := ?_)
      refine rn (k + 1) ⟨by omega, fun i hi => ?_⟩ (by omega) (by repeat (first | exact trivial | refine ⟨rfl, ?_⟩)) (SubL.refl _)
      rcases Nat.lt_succ_iff_lt_or_eq.1 hi with h | rfl
      · exact hall i h
      · assumption
  · skip
    have hkn : k = n := by simp only [decide_eq_false_iff_not] at h0; omega
    refine et (h := ?_)
    refine q_then_exit (h := ?_)
    refine q_then_exit (h := ?_)
    refine q_blk_hit (h := ?_)
    refine q_seq (h := ?_)
    refine sq (h := ?_)
    refine rg (h := ?_)
    refine WL.y (hy := asg) (h := ?_)
    refine nl (h := ?_)
    refine q_seq (h := ?_)
    refine rtn (h := ?_)
    refine q_ret (hR := ?_)
    exact fun w hS => ⟨_, .inr ⟨rfl, by subst hkn; exact hall⟩, rfl, hS⟩

theorem C_ContainsFuncP {A : Option Addr} {n c : Nat} {es : List (List Value)} {g : FuncId} (hg : FnOk Try.prog g) (fi cap : List Value) (Lp : List Ent) (p : Nat → Bool) (hn : n ≤ 9223372036854775807)
    (hp : ∀ k cs, es[k]? = some cs → Tr Try.prog g (fi ++ [.agg cs.toArray] ++ cap) (.ro A 2 n es :: Lp) (fun _ : Unit => True) (fun _ => .bool (p k)) (fun _ => .ro A 2 n es :: Lp)) :
    Tr Try.prog 74 [.slice A n c, .func (.func g) fi.toArray cap.toArray] (.ro A 2 n es :: Lp) (fun _ : Unit => True) (fun _ => .bool ((List.range n).any p)) (fun _ => .ro A 2 n es :: Lp) := by
  refine ⟨fun w0 w R hst => ?_⟩
  refine en Try.func74 Try.ntmps74 hst (h := fun F => ?_)
  refine sq (h := ?_)
  refine rg (h := ?_)
  refine WL.y (hy := asg) (h := ?_)
  refine nl (h := ?_)
  refine q_seq (h := ?_)
  refine sq (h := ?_)
  refine rg (h := ?_)
  refine WL.y (hy := mv) (h := ?_)
  refine WL.y (hy := mv) (h := ?_)
  refine clT (hc := C_IndexFuncP hg fi cap Lp p hn hp) (hs := Spl.cons .here (Spl.app _ _)) (h := fun x0 hx0 => ?_)
  refine WL.y (hy := geq) (h := ?_)
  refine WL.y (hy := asg) (h := ?_)
  refine nl (h := ?_)
  refine q_seq (h := ?_)
  refine rtn (h := ?_)
  refine q_ret (hR := ?_)
  exact fun w hS => ⟨(), trivial, by simp only [resV, hx0.any], hS⟩


theorem C_lines_check (v : View) (b : Box) (A : Option Addr) (n c : Nat) (w : World) (h : Rd w A 4 n v.enc) (hn : n ≤ 9223372036854775807) : C0 Try.prog 48 [v.val A n c, b.val] w (.int .i64 (chkVB v b)) := by
  refine ⟨en Try.func48 Try.ntmps48 ((St.init w).share (e := .ro A 4 n v.enc) h rfl rfl rfl) (h := fun F => ?_)⟩
  refine sq (h := ?_)
  refine rg (h := ?_)
  refine bxA (h := fun b0 => ?_)
  refine bxA (h := fun b1 => ?_)
  refine WL.y (hy := asg) (h := ?_)
  refine nl (h := ?_)
  refine q_seq (h := ?_)
  refine sq (h := ?_)
  refine sq (h := ?_)
  refine rg (h := ?_)
  refine WL.y (hy := (by first | exact ldA | exact ldEA)) (h := ?_)
  refine cl0 (hc := fun w hS => C_lines_Check _ _ _ _ w (hS.get (by repeat (first | exact Rds.ro | exact Rds.own | apply Rds.there))) (by omega)) (h := ?_)
  refine WL.y (hy := asg) (h := ?_)
  refine nl (h := ?_)
  refine q_seq (h := ?_)
  refine sq (h := ?_)
  refine rg (h := ?_)
  refine WL.y (hy := mv) (h := ?_)
  refine WL.y (hy := neq) (h := ?_)
  refine nl (h := ?_)
  refine q_seq (h := ?_)
  refine cd (by exact rfl) (fun h0 => ?_) (fun h0 => ?_)
  · skip
    refine sq (h := ?_)
    refine rg (h := ?_)
    refine WL.y (hy := mv) (h := ?_)
    refine WL.y (hy := asg) (h := ?_)
    refine nl (h := ?_)
    refine q_seq (h := ?_)
    refine rtn (h := ?_)
    refine q_then_ret (h := ?_)
    refine q_ret (hR := ?_)
    exact fun w hS => ⟨cdT' (fun x : Int => Ending.returned (Value.int .i64 x)) h0, hS.sub (by repeat (first | exact SubL.nil | (apply SubL.cons; (repeat (first | exact At.here | apply At.there)))))⟩
  · skip
    refine skp (h := ?_)
    refine q_seq (h := ?_)
    refine sq (h := ?_)
    refine rg (h := ?_)
    refine WL.y (hy := (by first | exact ldA | exact ldEA)) (h := ?_)
    refine cl0 (hc := fun w hS => C_lines_checkBox ..) (h := ?_)
    refine WL.y (hy := asg) (h := ?_)
    refine nl (h := ?_)
    refine q_seq (h := ?_)
    refine rtn (h := ?_)
    refine q_ret (hR := ?_)
    exact fun w hS => ⟨cdF' (fun x : Int => Ending.returned (Value.int .i64 x)) h0, hS.sub (by repeat (first | exact SubL.nil | (apply SubL.cons; (repeat (first | exact At.here | apply At.there)))))⟩

theorem T_lines_call1 (v : View) (b : Box) (A : Option Addr) (n c a0 a1 : Nat) (Le : Ent) (hv : v.Near) (hb : b.Ok) (p : Int × Int) (hp : p ∈ trus v) :
    Tr Try.prog 75 [.agg #[.int .i64 p.1, .int .i64 p.2], .pointer (some ⟨a0, 0, none⟩), .pointer (some ⟨a1, 0, none⟩)] [Le, .blk a0 26 (v.cells A n c), .blk a1 28 [.int .i64 b.l, .int .i64 b.r, .int .i64 b.b, .int .i64 b.t]] (fun _ : Unit => True) (fun _ => .bool (!tch (smallM v p) b)) (fun _ => [Le, .blk a0 26 (v.cells A n c), .blk a1 28 [.int .i64 b.l, .int .i64 b.r, .int .i64 b.b, .int .i64 b.t]]) := by
  have hmk := small_ok hv hp
  refine ⟨fun w0 w R hst => ?_⟩
  refine en Try.func75 Try.ntmps75 hst (h := fun F => ?_)
  refine sq (h := ?_)
  refine rg (h := ?_)
  refine bxA (h := fun b0 => ?_)
  refine WL.y (hy := asg) (h := ?_)
  refine nl (h := ?_)
  refine q_seq (h := ?_)
  refine sq (h := ?_)
  refine rgD (by kernel_rfl) [(1000000, .blk b0 85 [.int .i64 p.1, .int .i64 p.2]), (1000000, .blk a0 26 (v.cells A n c)), (1000000, .blk a1 28 [.int .i64 b.l, .int .i64 b.r, .int .i64 b.b, .int .i64 b.t])] (by repeat (first | exact HS.nil | (apply HS.keep; (repeat (first | exact At.here | apply At.there))) | (apply HS.ro; (repeat (first | exact Rds.ro | exact Rds.own | apply Rds.there))))) (h := ?_)
  refine tk 0 (hy := (by first | exact ldA | exact ldEA)) (h := ?_)
  refine tk 1 (hy := (by first | exact ldA | exact ldEA)) (h := ?_)
  refine tk 3 (hy := (by first | exact ldA | exact ldEA)) (h := ?_)
  refine one 2 (h := ?_)
  refine cl0 (hc := fun w hS => C_lines_small ..) (h := ?_)
  refine nx (h := ?_)
  refine one 4 (h := ?_)
  refine cl0 (hc := fun w hS => C_lines_touches (smallM v p) b hmk hb w) (h := ?_)
  refine nx (h := ?_)
  refine tk 5 (hy := notB) (h := ?_)
  refine tk 6 (hy := asg) (h := ?_)
  refine dn (h := ?_)
  refine q_seq (h := ?_)
  refine rtn (h := ?_)
  refine q_ret (hR := ?_)
  exact fun w hS => ⟨(), trivial, rfl, hS.tail⟩
theorem T_lines_call2 (v : View) (b : Box) (A : Option Addr) (n c a0 a1 : Nat) (Le : Ent) (hv : v.Near) (hb : b.Ok) (p : Int × Int) (hp : p ∈ trus v) :
    Tr Try.prog 76 [.agg #[.int .i64 p.1, .int .i64 p.2], .pointer (some ⟨a0, 0, none⟩), .pointer (some ⟨a1, 0, none⟩)] [Le, .blk a0 26 (v.cells A n c), .blk a1 28 [.int .i64 b.l, .int .i64 b.r, .int .i64 b.b, .int .i64 b.t]] (fun _ : Unit => True) (fun _ => .bool (tch (largeM v p) b)) (fun _ => [Le, .blk a0 26 (v.cells A n c), .blk a1 28 [.int .i64 b.l, .int .i64 b.r, .int .i64 b.b, .int .i64 b.t]]) := by
  have hmk := large_ok hv hp
  refine ⟨fun w0 w R hst => ?_⟩
  refine en Try.func76 Try.ntmps76 hst (h := fun F => ?_)
  refine sq (h := ?_)
  refine rg (h := ?_)
  refine bxA (h := fun b0 => ?_)
  refine WL.y (hy := asg) (h := ?_)
  refine nl (h := ?_)
  refine q_seq (h := ?_)
  refine sq (h := ?_)
  refine rgD (by kernel_rfl) [(1000000, .blk b0 85 [.int .i64 p.1, .int .i64 p.2]), (1000000, .blk a0 26 (v.cells A n c)), (1000000, .blk a1 28 [.int .i64 b.l, .int .i64 b.r, .int .i64 b.b, .int .i64 b.t])] (by repeat (first | exact HS.nil | (apply HS.keep; (repeat (first | exact At.here | apply At.there))) | (apply HS.ro; (repeat (first | exact Rds.ro | exact Rds.own | apply Rds.there))))) (h := ?_)
  refine tk 0 (hy := (by first | exact ldA | exact ldEA)) (h := ?_)
  refine tk 1 (hy := (by first | exact ldA | exact ldEA)) (h := ?_)
  refine tk 3 (hy := (by first | exact ldA | exact ldEA)) (h := ?_)
  refine one 2 (h := ?_)
  refine cl0 (hc := fun w hS => C_lines_large ..) (h := ?_)
  refine nx (h := ?_)
  refine one 4 (h := ?_)
  refine cl0 (hc := fun w hS => C_lines_touches (largeM v p) b hmk hb w) (h := ?_)
  refine nx (h := ?_)
  refine tk 5 (hy := asg) (h := ?_)
  refine dn (h := ?_)
  refine q_seq (h := ?_)
  refine rtn (h := ?_)
  refine q_ret (hR := ?_)
  exact fun w hS => ⟨(), trivial, rfl, hS.tail⟩
end Go.Proofs.Ytdphljhhcaoleaa
