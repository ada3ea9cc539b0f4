/- The texts of the walk, part 5. -/
import Derived.Test.YthkliiifllhacaaGreatJ4
import Derived.Shelf.SlSortCmp.WholeK
import Derived.Test.YthkliiifllhacaaGreatProg
namespace Go.Proofs.YthkliiifllhacaaGreat
open Go Go.RowKit

theorem C_rank_compare (x y : Ln) (hx : LnB x) (hy : LnB y) (w : World) : C0 Tryz.prog 74 [x.val, y.val] w (.int .i64 (cmpLn x y)) := by
 unfold LnB at hx hy
 refine ⟨en Tryz.func74 Tryz.ntmps74 (St.init w) (h := fun F => ?_)⟩
 refine sr ?_
 refine bxA (h := fun b0 => ?_)
 refine bxA (h := fun b1 => ?_)
 refine ww ?_
 refine nr ?_
 iterate 20 refine ww ?_
 refine bs (h := fun bo => ?_)
 refine cl0 (hc := fun w hS => C_cmpOr [y.pts - x.pts, y.musts - x.musts, x.many - y.many, x.pl - y.pl] (some ⟨bo, 0, none⟩) 4 4 w (hS.get rdz_) (by omega)) (h := ?_)
 refine ww ?_
 refine nq ?_
 refine rtn ?_
 refine q_ret (hR := ?_)
 exact fun w hS => ⟨rfl, hS.sub slz_⟩
theorem T_pdqL (g : FuncId) (hg : FnOk Tryz.prog g) (cmp : Ln → Ln → Int) (Q : Ln → Prop) (hc : ∀ x y, Q x → Q y → ∀ w, C0 Tryz.prog g [x.val, y.val] w (.int .i64 (cmp x y))) (xs : List Ln) (A : Option Addr) (n c : Nat) (lim : Int) (hlen : xs.length = n) (hn : n ≤ 12) (hr : ∀ x ∈ xs, Q x) :
  Tr Tryz.prog 111 [.slice A n c, .int .i64 0, .int .i64 n, .int .i64 lim, .func (.func g) #[] #[]] [.own A c 166 4 n (xs.map Ln.enc)] (fun _ : Unit => True) (fun _ => .tuple #[]) (fun _ => [.own A c 166 4 n ((srtG (fun x y => decide (cmp x y < 0)) xs).map Ln.enc)]) := by
 refine ⟨fun w0 w R hst => ?_⟩
 refine en Tryz.func111 Tryz.ntmps111 hst (h := fun F => ?_)
 refine sr ?_
 refine ww ?_
 refine nr ?_
 refine ww ?_
 refine nq ?_
 refine bk ?_
 refine lp (X := Unit) (I := fun _ => True) (le := fun _ => [(0, .slice A n c), (1, .int .i64 0), (2, .int .i64 n), (4, .func (.func g) #[] #[])]) (Le := fun _ => .own A c 166 4 n (xs.map Ln.enc) :: R) (μ := fun _ => 0) () trivial sbz_ (SubL.refl _) (fun _ _ => ?_)
 refine bk ?_
 refine sr ?_
 iterate 2 refine ww ?_
 refine wy (subI (hb := by omega)) ?_
 rw [Int.sub_zero]
 refine ww ?_
 refine nq ?_
 refine sq ?_
 refine sr ?_
 refine ww ?_
 refine wy ((Yd.tr (leq) (by refine decide_eq_true ?_; omega))) ?_
 refine nq ?_
 refine cdT (h := ?_)
 refine sr ?_
 iterate 4 refine ww ?_
 refine clT (hc := T_insL g hg cmp Q hc xs A n c hlen (by omega) hr) (hs := (by repeat (first | exact Spl.nil | (apply Spl.cons; (repeat (first | exact At.here | apply At.there)))))) (h := fun _ _ => ?_)
 refine nq ?_
 refine rtn ?_
 refine q_then_ret ?_
 refine q_blk_ret ?_
 refine q_then_ret ?_
 refine q_blk_ret ?_
 refine q_ret (hR := ?_)
 exact fun w hS => ⟨(), trivial, rfl, hS⟩
theorem T_SortL (g : FuncId) (hg : FnOk Tryz.prog g) (cmp : Ln → Ln → Int) (Q : Ln → Prop) (hc : ∀ x y, Q x → Q y → ∀ w, C0 Tryz.prog g [x.val, y.val] w (.int .i64 (cmp x y))) (xs : List Ln) (A : Option Addr) (n c : Nat) (hlen : xs.length = n) (hn : n ≤ 12) (hr : ∀ x ∈ xs, Q x) :
  Tr Tryz.prog 73 [.slice A n c, .func (.func g) #[] #[]] [.own A c 166 4 n (xs.map Ln.enc)] (fun _ : Unit => True) (fun _ => .tuple #[]) (fun _ => [.own A c 166 4 n ((srtG (fun x y => decide (cmp x y < 0)) xs).map Ln.enc)]) := by
 refine ⟨fun w0 w R hst => ?_⟩
 refine en Tryz.func73 Tryz.ntmps73 hst (h := fun F => ?_)
 refine sr ?_
 iterate 3 refine ww ?_
 refine nq ?_
 refine rg ?_
 iterate 3 refine ww ?_
 refine wy (cvI (hw := wrap_u64 (by omega))) ?_
 refine cl (hc := fun w hS => C_Len n (by omega) w) (h := fun x hx => ?_)
 refine ww ?_
 refine clT (hc := T_pdqL g hg cmp Q hc xs A n c x hlen hn hr) (hs := (by repeat (first | exact Spl.nil | (apply Spl.cons; (repeat (first | exact At.here | apply At.there)))))) (h := fun _ _ => ?_)
 refine nl ?_
 refine q_end (hR := ?_)
 exact fun w hS => ⟨(), trivial, rfl, hS⟩
theorem ln_snoc (l : List Ln) (x : Ln) : l.map Ln.enc ++ [x.enc] = (l ++ [x]).map Ln.enc := by rw [List.map_append]; rfl
theorem ln_at {xs : List Ln} {k : Nat} {x : Ln} (h : xs[k]? = some x) : (xs.map Ln.enc)[k]? = some x.enc := map_atR h
theorem pl_snoc {l : List Ln} {k : Nat} {x : Ln} (h : l[k]? = some x) : encI ((l.take k).map Ln.pl) ++ [[.int .i64 x.pl]] = encI ((l.take (k + 1)).map Ln.pl) := by
 rw [List.take_add_one, h, List.map_append]
 unfold encI
 rw [List.map_append]; rfl
set_option maxRecDepth 100000 in
set_option maxHeartbeats 4000000 in
theorem T_list (B : Lg) (a : LgA) (b : Nat) (wk : Int) (hB : BkG B) (hp12 : B.players ≤ 12) (hw : 0 ≤ wk ∧ wk ≤ 400) :
  Tr Tryz.prog 34 [.pointer (some ⟨b, 0, none⟩), .int .i64 wk] (bkL B a b) (fun _ : Option Addr × Nat => True) (fun x => .slice x.1 (lstV B wk).length x.2) (fun x => .own x.1 x.2 3 1 (lstV B wk).length (encI (lstV B wk)) :: bkL B a b) := by
 refine ⟨fun w0 w R hst => ?_⟩
 have hbl := hB.bl
 have hrn := hB.n
 have hpp := hB.p
 have hpt : ∀ r ∈ B.rs, 0 ≤ r.pts ∧ r.pts ≤ 2000 := fun r hr => (hB.r r hr).2.2.2
 refine en Tryz.func34 Tryz.ntmps34 hst (h := fun F => ?_)
 refine sr ?_
 refine ww ?_
 refine nr ?_
 refine ww ?_
 refine nq ?_
 iterate 2 refine sq ?_
 refine WC.nilOwn 166 4 (h := ?_)
 refine rg ?_
 iterate 6 refine ww ?_
 refine nq ?_
 refine bk ?_
 refine lp (X := CoZ) (I := fun z => z.k ≤ B.players.toNat) (le := fun z => [(0, .pointer (some ⟨b, 0, none⟩)), (1, .int .i64 wk), (5, .slice z.A (lnsV B wk z.k).length z.c), (18, .int .i64 B.players), (19, .int .i64 z.k)]) (Le := fun z => .own z.A z.c 166 4 (lnsV B wk z.k).length ((lnsV B wk z.k).map Ln.enc) :: (bkL B a b ++ R)) (μ := fun z => B.players.toNat - z.k) ⟨0, none, 0⟩ (Nat.zero_le _) sbz_ slz_ (fun z hzk => ?_)
 refine sr ?_
 refine ww ?_
 refine nq ?_
 refine sq ?_
 refine czz (fun h0 => ?_) fun h0 => ?_
 ·
  have hkp : (z.k : Int) < B.players := of_decide_eq_true h0
  have hcl := cou_len B z.k wk
  have hcb : ∀ r ∈ couV B z.k wk, RpB r := fun r hr => hB.rb (cou_mem hr)
  have htl := tkn_len B.counts (couV B z.k wk)
  have hll := lns_len B wk z.k
  have hls : lnsV B wk (z.k + 1) = bif offV B wk z.k then lnsV B wk z.k else lnsV B wk z.k ++ [linV B wk z.k] := rfl
  refine skp ?_
  refine q_seq ?_
  refine sq ?_
  refine bk ?_
  refine sr ?_
  iterate 2 refine ww ?_
  refine nr ?_
  iterate 3 refine ww ?_
  refine clT (hc := T_count B a b (z.k : Int) wk hB hw) (hs := (by repeat (first | exact Spl.nil | (apply Spl.cons; (repeat (first | exact At.here | apply At.there)))))) (h := fun x0 _ => ?_)
  refine ww ?_
  refine nq ?_
  refine sq ?_
  refine sr ?_
  iterate 7 refine ww ?_
  refine cl0 (hc := fun w hS => C_rank_away B.bs a.bA B.bs.length a.bc (z.k : Int) wk rfl (by omega) w (hS.get rdz_)) (h := ?_)
  refine ww ?_
  apply brOr 4 34 38 (by exact rfl)
  ·
   intro hb1
   iterate 3 refine uw ?_
   refine ww ?_
   exact mg (by repeat (first | exact trivial | refine ⟨rfl, ?_⟩ | refine ⟨by rw [hb1]; rfl, ?_⟩)) slz_
  ·
   intro hb1
   repeat (first | refine uz ?_ | refine kz ?_ | refine wz ?_)
   exact mg (by repeat (first | exact trivial | refine ⟨rfl, ?_⟩ | refine ⟨by rw [hb1]; rfl, ?_⟩)) slz_
  refine nq ?_
  refine czz (fun h2 => ?_) fun h2 => ?_
  ·
   have hoff : offV B wk z.k = true := h2
   rw [hoff, cond_true] at hls
   refine et ?_
   refine q_then_exit ?_
   refine q_blk_hit ?_
   refine q_seq ?_
   refine rg ?_
   iterate 2 refine ww ?_
   refine nl ?_
   first
    | refine rn (x := z) ⟨z.k + 1, A1, c1⟩ (by dsimp only; omega) (by dsimp only; omega) (by dsimp only; rw [hlsl]; repeat (first | exact trivial | refine ⟨rfl, ?_⟩)) (by dsimp only; rw [hlsl, hls]; repeat (first | exact SubL.nil | (apply SubL.cons; (repeat (first | exact At.here | apply At.there))) | exact SubL.refl _ | apply SubL.skip))
    | refine rn (x := z) ⟨z.k + 1, z.A, z.c⟩ (by dsimp only; omega) (by dsimp only; omega) (by dsimp only; rw [hls]; repeat (first | exact trivial | refine ⟨rfl, ?_⟩)) (by dsimp only; rw [hls]; repeat (first | exact SubL.nil | (apply SubL.cons; (repeat (first | exact At.here | apply At.there))) | exact SubL.refl _ | apply SubL.skip))
  ·
   have hoff : offV B wk z.k = false := h2
   rw [hoff, cond_false] at hls
   have hlsl : (lnsV B wk (z.k + 1)).length = (lnsV B wk z.k).length + 1 := by rw [hls, List.length_append]; rfl
   refine skp ?_
   refine q_seq ?_
   refine sr ?_
   iterate 3 refine ww ?_
   refine clT (hc := T_taken B a b (couV B z.k wk) x0.1 (couV B z.k wk).length x0.2 rfl (by omega) hcb hB.c) (hs := (by repeat (first | exact Spl.nil | (apply Spl.cons; (repeat (first | exact At.here | apply At.there)))))) (h := fun x1 _ => ?_)
   refine cl0 (hc := fun w hS => C_rank_sum (tknV B.counts (couV B z.k wk)) x1.1 _ x1.2 rfl (by omega) (fun r hr => hpt r (cou_mem (tkn_mem hr))) w (hS.get rdz_)) (h := ?_)
   iterate 3 refine ww ?_
   refine al (h := fun bl => ?_)
   first | refine stA (h := ?_) | refine stEA (h := ?_)
   refine nq ?_
   refine sq ?_
   refine sr ?_
   iterate 3 refine ww ?_
   refine nq ?_
   refine bk ?_
   refine lp (X := Nat) (I := fun j => j ≤ (couV B z.k wk).length) (le := fun j => [(0, .pointer (some ⟨b, 0, none⟩)), (1, .int .i64 wk), (5, .slice z.A (lnsV B wk z.k).length z.c), (8, .pointer (some ⟨bl, 0, none⟩)), (18, .int .i64 B.players), (19, .int .i64 z.k), (47, .slice x0.1 (couV B z.k wk).length x0.2), (48, .int .i64 (couV B z.k wk).length), (49, .int .i64 j)]) (Le := fun j => .blk bl 166 [.int .i64 z.k, .int .i64 (sumR (tknV B.counts (couV B z.k wk)) (tknV B.counts (couV B z.k wk)).length), .int .i64 (mstR (couV B z.k wk) j), .int .i64 (couV B z.k wk).length] :: .own x0.1 x0.2 90 5 (couV B z.k wk).length ((couV B z.k wk).map Rp.enc) :: .own z.A z.c 166 4 (lnsV B wk z.k).length ((lnsV B wk z.k).map Ln.enc) :: (bkL B a b ++ R)) (μ := fun j => (couV B z.k wk).length - j) 0 (Nat.zero_le _) sbz_ slz_ (fun j hj => ?_)
   refine sr ?_
   refine ww ?_
   refine nq ?_
   refine sq ?_
   refine czz (fun h3 => ?_) fun h3 => ?_
   ·
    have hjn : j < (couV B z.k wk).length := by have := of_decide_eq_true h3; omega
    obtain ⟨y, hy⟩ : ∃ y, (couV B z.k wk)[j]? = some y := ⟨_, List.getElem?_eq_getElem hjn⟩
    have hyb := hcb y (List.mem_of_getElem? hy)
    unfold RpB at hyb
    have hsu := mst_succ hy
    have hmr := mst_rng (l := couV B z.k wk) (fun r hr => hpt r (cou_mem hr)) j
    refine skp ?_
    refine q_seq ?_
    refine sq ?_
    refine bk ?_
    refine sr ?_
    refine wy (ix (A := x0.1) (m := (couV B z.k wk).length)) ?_
    refine wy (ldEW (A := x0.1) (k := j) (cs := y.enc) (hk := rp_at hy)) ?_
    refine al (h := fun br => ?_)
    first | refine stA (h := ?_) | refine stEA (h := ?_)
    refine nr ?_
    iterate 2 refine ww ?_
    refine nq ?_
    refine czz (fun h4 => ?_) fun h4 => ?_
    ·
     rw [h4, cond_true] at hsu
     refine rg ?_
     iterate 6 refine ww ?_
     first | refine st (h := ?_) | refine stE (h := ?_)
     refine nl ?_
     refine q_blk_norm ?_
     refine q_seq ?_
     refine rg ?_
     iterate 2 refine ww ?_
     refine nl ?_
     refine rn (x := j) (j + 1) hjn (by omega) sbz_ (by rw [hsu]; repeat (first | exact SubL.nil | (apply SubL.cons; (repeat (first | exact At.here | apply At.there))) | exact SubL.refl _ | apply SubL.skip))
    ·
     rw [h4, cond_false] at hsu
     refine skp ?_
     refine q_blk_norm ?_
     refine q_seq ?_
     refine rg ?_
     iterate 2 refine ww ?_
     refine nl ?_
     refine rn (x := j) (j + 1) hjn (by omega) sbz_ (by rw [hsu]; repeat (first | exact SubL.nil | (apply SubL.cons; (repeat (first | exact At.here | apply At.there))) | exact SubL.refl _ | apply SubL.skip))
   ·
    have hjn : j = (couV B z.k wk).length := by have := of_decide_eq_false h3; omega
    rw [hjn]
    refine et ?_
    iterate 2 refine q_then_exit ?_
    refine q_blk_hit ?_
    refine q_seq ?_
    refine rg ?_
    iterate 2 refine ww ?_
    refine bs (h := fun b0 => ?_)
    refine ap (es := (lnsV B wk z.k).map Ln.enc) (m := (lnsV B wk z.k).length) (k := 1) (A := z.A) (c := z.c) (h := fun A1 c1 => ?_)
    rw [show (lnsV B wk z.k).map Ln.enc ++ [[Value.int .i64 z.k, .int .i64 (sumR (tknV B.counts (couV B z.k wk)) (tknV B.counts (couV B z.k wk)).length), .int .i64 (mstR (couV B z.k wk) (couV B z.k wk).length), .int .i64 (couV B z.k wk).length]] = ((lnsV B wk z.k) ++ [linV B wk z.k]).map Ln.enc from ln_snoc (lnsV B wk z.k) (linV B wk z.k)]
    refine ww ?_
    refine nl ?_
    refine q_blk_norm ?_
    refine q_seq ?_
    refine rg ?_
    iterate 2 refine ww ?_
    refine nl ?_
    first
     | refine rn (x := z) ⟨z.k + 1, A1, c1⟩ (by dsimp only; omega) (by dsimp only; omega) (by dsimp only; rw [hlsl]; repeat (first | exact trivial | refine ⟨rfl, ?_⟩)) (by dsimp only; rw [hlsl, hls]; repeat (first | exact SubL.nil | (apply SubL.cons; (repeat (first | exact At.here | apply At.there))) | exact SubL.refl _ | apply SubL.skip))
     | refine rn (x := z) ⟨z.k + 1, z.A, z.c⟩ (by dsimp only; omega) (by dsimp only; omega) (by dsimp only; rw [hls]; repeat (first | exact trivial | refine ⟨rfl, ?_⟩)) (by dsimp only; rw [hls]; repeat (first | exact SubL.nil | (apply SubL.cons; (repeat (first | exact At.here | apply At.there))) | exact SubL.refl _ | apply SubL.skip))
 ·
  have hkp : z.k = B.players.toNat := by have := of_decide_eq_false h0; omega
  have hll := lns_len B wk B.players.toNat
  have hlb := lns_rng (wk := wk) hpt (by omega) (k := B.players.toNat) (by omega)
  have hsl : (srtL B wk).length = (lnsV B wk B.players.toNat).length := srtG_len _ _
  rw [hkp]
  refine et ?_
  iterate 2 refine q_then_exit ?_
  refine q_blk_hit ?_
  refine q_seq ?_
  refine sr ?_
  refine ww ?_
  refine clT (hc := T_SortL 74 inferInstance cmpLn LnB C_rank_compare (lnsV B wk B.players.toNat) z.A (lnsV B wk B.players.toNat).length z.c rfl (by omega) hlb) (hs := (by repeat (first | exact Spl.nil | (apply Spl.cons; (repeat (first | exact At.here | apply At.there)))))) (h := fun _ _ => ?_)
  rw [show srtG (fun x y => decide (cmpLn x y < 0)) (lnsV B wk B.players.toNat) = srtL B wk from rfl]
  refine nr ?_
  refine ww ?_
  refine nq ?_
  iterate 2 refine sq ?_
  refine WC.nilOwn 3 1 (h := ?_)
  refine rg ?_
  iterate 3 refine ww ?_
  refine nq ?_
  refine bk ?_
  refine lp (X := CoZ) (I := fun u => u.k ≤ (lnsV B wk B.players.toNat).length) (le := fun u => [(11, .slice u.A u.k u.c), (69, .slice z.A (lnsV B wk B.players.toNat).length z.c), (70, .int .i64 (lnsV B wk B.players.toNat).length), (71, .int .i64 u.k)]) (Le := fun u => .own u.A u.c 3 1 u.k (encI (((srtL B wk).take u.k).map Ln.pl)) :: .own z.A z.c 166 4 (lnsV B wk B.players.toNat).length ((srtL B wk).map Ln.enc) :: (bkL B a b ++ R)) (μ := fun u => (lnsV B wk B.players.toNat).length - u.k) ⟨0, none, 0⟩ (Nat.zero_le _) sbz_ slz_ (fun u huk => ?_)
  refine sr ?_
  refine ww ?_
  refine nq ?_
  refine sq ?_
  refine czz (fun h5 => ?_) fun h5 => ?_
  ·
   have hun : u.k < (lnsV B wk B.players.toNat).length := by have := of_decide_eq_true h5; omega
   obtain ⟨y, hy⟩ : ∃ y, (srtL B wk)[u.k]? = some y := ⟨_, List.getElem?_eq_getElem (by omega)⟩
   refine skp ?_
   refine q_seq ?_
   refine sq ?_
   refine bk ?_
   refine sr ?_
   refine wy (ix (A := z.A) (m := (lnsV B wk B.players.toNat).length)) ?_
   refine wy (ldEW (A := z.A) (k := u.k) (cs := y.enc) (hk := ln_at hy)) ?_
   refine al (h := fun bq => ?_)
   first | refine stA (h := ?_) | refine stEA (h := ?_)
   refine nq ?_
   refine rg ?_
   iterate 3 refine ww ?_
   refine bs (h := fun b1 => ?_)
   refine ap (es := encI (((srtL B wk).take u.k).map Ln.pl)) (m := u.k) (k := 1) (A := u.A) (c := u.c) (h := fun A1 c1 => ?_)
   rw [pl_snoc hy]
   refine ww ?_
   refine nl ?_
   refine q_blk_norm ?_
   refine q_seq ?_
   refine rg ?_
   iterate 2 refine ww ?_
   refine nl ?_
   refine rn (x := u) ⟨u.k + 1, A1, c1⟩ hun (by dsimp only; omega) sbz_ slz_
  ·
   have hun : u.k = (srtL B wk).length := by have := of_decide_eq_false h5; omega
   have hlv : (lstV B wk).length = u.k := by unfold lstV; rw [List.length_map, hun]
   have hlw : ((srtL B wk).take u.k).map Ln.pl = lstV B wk := by rw [hun, List.take_length]; rfl
   rw [hlw]
   refine et ?_
   iterate 2 refine q_then_exit ?_
   refine q_blk_hit ?_
   refine q_seq ?_
   refine sr ?_
   iterate 2 refine ww ?_
   refine nq ?_
   refine rtn ?_
   refine q_ret (hR := ?_)
   exact fun w hS => ⟨(u.A, u.c), trivial, by rw [hlv]; rfl, by rw [hlv]; exact hS.sub slz_⟩
theorem open_good {l : Lg} (hG : LedG l) (hn : l.rs.length ≤ 10) : BkG l.open := ⟨hG.opn, Nat.le_trans (onc_len _) hn⟩
theorem C_rank_List (l : Lg) (a : LgA) (wk : Int) (hG : LedG l) (hc : ¬ Clash l.rs) (hn : l.rs.length ≤ 10) (hp12 : l.players ≤ 12) (hw : 0 ≤ wk ∧ wk ≤ 400) (w : World) (h : LgR w l a) :
  CR Tryz.prog 9 [l.val a, .int .i64 wk] w (fun _ : Option Addr × Nat => True) (fun x => .tuple #[.slice x.1 (lstV l.open wk).length x.2, .int .i64 0]) (fun x => [.own x.1 x.2 3 1 (lstV l.open wk).length (encI (lstV l.open wk))]) := by
 have hpl := hG.p
 have hB := open_good hG hn
 refine ⟨en Tryz.func9 Tryz.ntmps9 (((St.init w).share (e := .ro a.bA 3 l.bs.length (l.bs.map Ab.enc)) h.b rfl rfl rfl).share (e := .ro a.fA 3 l.fs.length (l.fs.map Ab.enc)) h.f rfl rfl rfl) (h := fun F => ?_)⟩
 refine sr ?_
 refine bxA (h := fun b0 => ?_)
 iterate 2 refine ww ?_
 refine nr ?_
 iterate 2 refine ww ?_
 refine cl (hc := fun w hS => C_rank_ask l a 0 wk hG hc (by omega) (by omega) hw w (h.old hS)) (h := fun x0 _ => ?_)
 iterate 5 refine ww ?_
 refine nq ?_
 refine sq ?_
 refine sr ?_
 refine ww ?_
 refine wy ((Yd.fl (neq) (by rfl))) ?_
 refine nq ?_
 refine cdF (h := ?_)
 refine skp ?_
 refine q_seq ?_
 refine sr ?_
 iterate 2 refine ww ?_
 refine clT (hc := T_list l.open ⟨x0.A, a.bA, a.fA, x0.c, a.bc, a.fc⟩ x0.b wk hB hp12 hw) (hs := (by repeat (first | exact Spl.nil | (apply Spl.cons; (repeat (first | exact At.here | apply At.there)))))) (h := fun x1 _ => ?_)
 iterate 2 refine ww ?_
 refine nq ?_
 refine rtn ?_
 refine q_ret (hR := ?_)
 exact fun w hS => ⟨x1, trivial, rfl, hS.sub slz_⟩
end Go.Proofs.YthkliiifllhacaaGreat

namespace Go.Proofs.YthkliiifllhacaaGreat
open Go Go.RowKit

theorem any_at {α : Type} {l : List α} {p : α → Bool} {k : Nat} {x : α} (h : l[k]? = some x) (hp : p x = true) : l.any p = true := List.any_eq_true.2 ⟨x, List.mem_of_getElem? h, hp⟩
theorem all_bad_at {α : Type} {l : List α} {p : α → Bool} {k : Nat} {x : α} (h : l[k]? = some x) (hp : p x = false) : l.all p = false := by
 cases e : l.all p
 ·
  rfl
 ·
  have := List.all_eq_true.1 e x (List.mem_of_getElem? h)
  rw [hp] at this; cases this
theorem all_upto {α : Type} {l : List α} {p : α → Bool} (h : ∀ (i : Nat) x, i < l.length → l[i]? = some x → p x = true) : l.all p = true := List.all_eq_true.2 fun x hx => by
 obtain ⟨i, hi, e⟩ := List.getElem_of_mem hx
 exact h i x hi (by rw [List.getElem?_eq_getElem hi, e])
theorem up_step {α : Type} {l : List α} {q : α → Prop} {k : Nat} {x : α} (h : ∀ (i : Nat) y, i < k → l[i]? = some y → q y) (hx : l[k]? = some x) (hp : q x) : ∀ (i : Nat) y, i < k + 1 → l[i]? = some y → q y := fun i y hi hy => by
 by_cases e : i = k
 ·
  subst e
  rw [hx] at hy
  rw [← Option.some.inj hy]; exact hp
 ·
  exact h i y (by omega) hy
theorem C_ref4_within (n lo hi : Int) (w : World) : C0 Tryz.prog 63 [.int .i64 n, .int .i64 lo, .int .i64 hi] w (.bool (wi n lo hi)) := by
 refine ⟨en Tryz.func63 Tryz.ntmps63 (St.init w) (h := fun F => ?_)⟩
 refine sr ?_
 refine ww ?_
 refine nr ?_
 iterate 4 refine ww ?_
 apply brAnd 4 10 14 (by exact rfl)
 ·
  intro hb0
  iterate 3 refine uw ?_
  refine ww ?_
  exact mg (by repeat (first | exact trivial | refine ⟨rfl, ?_⟩ | refine ⟨by rw [hb0]; rfl, ?_⟩)) slz_
 ·
  intro hb0
  repeat (first | refine uz ?_ | refine kz ?_ | refine wz ?_)
  exact mg (by repeat (first | exact trivial | refine ⟨rfl, ?_⟩ | refine ⟨by rw [hb0]; rfl, ?_⟩)) slz_
 refine ww ?_
 refine nq ?_
 refine rtn ?_
 refine q_ret (hR := ?_)
 exact fun w hS => ⟨rfl, hS.sub slz_⟩
theorem ab_bad (n : Int) (a : Ab) : (((!wi a.pl 0 (n - 1) || decide (a.fr < 0)) || decide (a.to < a.fr)) || decide (400 < a.to)) = !absOk n a := by
 unfold absOk wi
 rw [Bool.eq_iff_iff]
 simp only [Bool.or_eq_true, Bool.not_eq_true', Bool.and_eq_false_iff, decide_eq_true_eq, decide_eq_false_iff_not]
 omega
set_option maxRecDepth 100000 in
set_option maxHeartbeats 1000000 in
theorem C_ref4_areLeaves (m : Int) (ab : List Ab) (A : Option Addr) (n c : Nat) (hm : 1 ≤ m ∧ m ≤ 16) (hl : ab.length = n) (hn : n ≤ 9223372036854775807) (w : World) (h : Rd w A 3 n (ab.map Ab.enc)) : C0 Tryz.prog 64 [.int .i64 m, .slice A n c] w (.bool (abssOk m ab)) := by
 refine ⟨en Tryz.func64 Tryz.ntmps64 ((St.init w).share (e := .ro A 3 n (ab.map Ab.enc)) h rfl rfl rfl) (h := fun F => ?_)⟩
 refine sr ?_
 refine ww ?_
 refine nq ?_
 refine sq ?_
 refine sr ?_
 refine ww ?_
 refine nq ?_
 refine bk ?_
 refine lp (X := Nat) (I := fun k => k ≤ n ∧ ∀ (i : Nat) y, i < k → ab[i]? = some y → absOk m y = true) (le := fun k => [(0, .int .i64 m), (1, .slice A n c), (5, .int .i64 k)]) (Le := fun _ => [.ro A 3 n (ab.map Ab.enc)]) (μ := fun k => n - k) 0 ⟨Nat.zero_le _, fun i y hi => by omega⟩ sbz_ slz_ (fun k hk => ?_)
 obtain ⟨hk0, hall⟩ := hk
 refine sq ?_
 refine sr ?_
 iterate 4 refine ww ?_
 refine nq ?_
 refine czz (fun h0 => ?_) fun h0 => ?_
 ·
  have hkn : k < n := by have := of_decide_eq_true h0; omega
  obtain ⟨x, hx⟩ : ∃ x, ab[k]? = some x := ⟨_, List.getElem?_eq_getElem (by omega)⟩
  refine skp ?_
  refine q_seq ?_
  refine sq ?_
  refine bk ?_
  refine sq ?_
  refine rgD0 (by kernel_rfl) (h := ?_)
  refine tw 0 ?_
  refine tw 1 ?_
  refine tk 2 (hy := ix (A := A) (m := n)) (h := ?_)
  refine tk 3 (hy := faE (A := A)) (h := ?_)
  refine tk 4 (hy := ldE (A := A) (hk := ab_at hx)) (h := ?_)
  refine tw 5 ?_
  refine tw 6 ?_
  refine one 7 (h := ?_)
  refine cl0 (hc := fun w hS => C_ref4_within _ _ _ w) (h := ?_)
  refine nx (h := ?_)
  refine tw 8 ?_
  refine tw 9 ?_
  refine brH (g := 21) (by exact rfl) (fun hb1 => ?_) (fun hb1 => ?_)
  ·
   have hbd : absOk m x = false := by have e := ab_bad m x; rw [show (!wi x.pl 0 (m - 1)) = true from hb1] at e; simpa using e.symm
   refine tkS 10 (h := ?_)
   refine tkS 11 (h := ?_)
   refine tkS 12 (h := ?_)
   refine tkS 13 (h := ?_)
   refine tkS 14 (h := ?_)
   refine tkS 15 (h := ?_)
   refine tw 16 ?_
   refine tw 17 ?_
   refine tkS 18 (h := ?_)
   refine tkS 19 (h := ?_)
   refine tkS 20 (h := ?_)
   refine tkS 21 (h := ?_)
   refine tkS 22 (h := ?_)
   refine tkS 23 (h := ?_)
   refine tkS 24 (h := ?_)
   refine tkS 25 (h := ?_)
   refine tkS 26 (h := ?_)
   refine tkS 27 (h := ?_)
   refine tkS 28 (h := ?_)
   refine tw 29 ?_
   refine tw 30 ?_
   refine tkS 31 (h := ?_)
   refine tkS 32 (h := ?_)
   refine tkS 33 (h := ?_)
   refine tkS 34 (h := ?_)
   refine tkS 35 (h := ?_)
   refine tkS 36 (h := ?_)
   refine tw 37 ?_
   refine dn (h := ?_)
   refine q_seq ?_
   refine cdT (h := ?_)
   have hbd2 : absOk m x = false := by
    first
     | exact hbd
     | (have e := ab_bad m x; rw [show decide (400 < x.to) = true by assumption] at e; simpa using e.symm)
   have hE : abssOk m ab = false := by unfold abssOk; rw [all_bad_at hx hbd2, Bool.and_false]
   refine sr ?_
   refine ww ?_
   refine nq ?_
   refine rtn ?_
   refine q_blk_ret ?_
   iterate 2 refine q_then_ret ?_
   refine q_blk_ret ?_
   refine q_then_ret ?_
   refine q_ret (hR := ?_)
   rw [hE]
   exact fun w hS => ⟨rfl, hS.sub slz_⟩
  ·
   have g21 : (!wi x.pl 0 (m - 1)) = false := hb1
   refine tw 10 ?_
   refine tw 11 ?_
   refine tk 12 (hy := ix (A := A) (m := n)) (h := ?_)
   refine tk 13 (hy := faE (A := A)) (h := ?_)
   refine tk 14 (hy := ldE (A := A) (hk := ab_at hx)) (h := ?_)
   refine tw 15 ?_
   refine tw 16 ?_
   refine tw 17 ?_
   refine brH (g := 29) (by exact rfl) (fun hb3 => ?_) (fun hb3 => ?_)
   ·
    have hbd : absOk m x = false := by have e := ab_bad m x; rw [show decide (x.fr < 0) = true from hb3] at e; simpa using e.symm
    refine tkS 18 (h := ?_)
    refine tkS 19 (h := ?_)
    refine tkS 20 (h := ?_)
    refine tkS 21 (h := ?_)
    refine tkS 22 (h := ?_)
    refine tkS 23 (h := ?_)
    refine tkS 24 (h := ?_)
    refine tkS 25 (h := ?_)
    refine tkS 26 (h := ?_)
    refine tkS 27 (h := ?_)
    refine tkS 28 (h := ?_)
    refine tw 29 ?_
    refine tw 30 ?_
    refine tkS 31 (h := ?_)
    refine tkS 32 (h := ?_)
    refine tkS 33 (h := ?_)
    refine tkS 34 (h := ?_)
    refine tkS 35 (h := ?_)
    refine tkS 36 (h := ?_)
    refine tw 37 ?_
    refine dn (h := ?_)
    refine q_seq ?_
    refine cdT (h := ?_)
    have hbd2 : absOk m x = false := by
     first
      | exact hbd
      | (have e := ab_bad m x; rw [show decide (400 < x.to) = true by assumption] at e; simpa using e.symm)
    have hE : abssOk m ab = false := by unfold abssOk; rw [all_bad_at hx hbd2, Bool.and_false]
    refine sr ?_
    refine ww ?_
    refine nq ?_
    refine rtn ?_
    refine q_blk_ret ?_
    iterate 2 refine q_then_ret ?_
    refine q_blk_ret ?_
    refine q_then_ret ?_
    refine q_ret (hR := ?_)
    rw [hE]
    exact fun w hS => ⟨rfl, hS.sub slz_⟩
   ·
    have g29 : decide (x.fr < 0) = false := hb3
    refine tw 18 ?_
    refine tw 19 ?_
    refine tk 20 (hy := ix (A := A) (m := n)) (h := ?_)
    refine tk 21 (hy := faE (A := A)) (h := ?_)
    refine tk 22 (hy := ldE (A := A) (hk := ab_at hx)) (h := ?_)
    refine tw 23 ?_
    refine tw 24 ?_
    refine tk 25 (hy := ix (A := A) (m := n)) (h := ?_)
    refine tk 26 (hy := faE (A := A)) (h := ?_)
    refine tk 27 (hy := ldE (A := A) (hk := ab_at hx)) (h := ?_)
    refine tw 28 ?_
    refine tw 29 ?_
    refine tw 30 ?_
    refine brH (g := 42) (by exact rfl) (fun hb5 => ?_) (fun hb5 => ?_)
    ·
     have hbd : absOk m x = false := by have e := ab_bad m x; rw [show decide (x.to < x.fr) = true from hb5] at e; simpa using e.symm
     refine tkS 31 (h := ?_)
     refine tkS 32 (h := ?_)
     refine tkS 33 (h := ?_)
     refine tkS 34 (h := ?_)
     refine tkS 35 (h := ?_)
     refine tkS 36 (h := ?_)
     refine tw 37 ?_
     refine dn (h := ?_)
     refine q_seq ?_
     refine cdT (h := ?_)
     have hbd2 : absOk m x = false := by
      first
       | exact hbd
       | (have e := ab_bad m x; rw [show decide (400 < x.to) = true by assumption] at e; simpa using e.symm)
     have hE : abssOk m ab = false := by unfold abssOk; rw [all_bad_at hx hbd2, Bool.and_false]
     refine sr ?_
     refine ww ?_
     refine nq ?_
     refine rtn ?_
     refine q_blk_ret ?_
     iterate 2 refine q_then_ret ?_
     refine q_blk_ret ?_
     refine q_then_ret ?_
     refine q_ret (hR := ?_)
     rw [hE]
     exact fun w hS => ⟨rfl, hS.sub slz_⟩
    ·
     have g42 : decide (x.to < x.fr) = false := hb5
     refine tw 31 ?_
     refine tw 32 ?_
     refine tk 33 (hy := ix (A := A) (m := n)) (h := ?_)
     refine tk 34 (hy := faE (A := A)) (h := ?_)
     refine tk 35 (hy := ldE (A := A) (hk := ab_at hx)) (h := ?_)
     refine tw 36 ?_
     refine tw 37 ?_
     refine dn (h := ?_)
     refine q_seq ?_
     refine czz (fun h7 => ?_) fun h7 => ?_
     ·
      have hbd2 : absOk m x = false := by
       first
        | exact hbd
        | (have e := ab_bad m x; rw [show decide (400 < x.to) = true by assumption] at e; simpa using e.symm)
      have hE : abssOk m ab = false := by unfold abssOk; rw [all_bad_at hx hbd2, Bool.and_false]
      refine sr ?_
      refine ww ?_
      refine nq ?_
      refine rtn ?_
      refine q_blk_ret ?_
      iterate 2 refine q_then_ret ?_
      refine q_blk_ret ?_
      refine q_then_ret ?_
      refine q_ret (hR := ?_)
      rw [hE]
      exact fun w hS => ⟨rfl, hS.sub slz_⟩
     ·
      have hok : absOk m x = true := by have e := ab_bad m x; rw [g21, g29, g42, show decide (400 < x.to) = false from h7] at e; simpa using e.symm
      refine skp ?_
      refine q_blk_norm ?_
      refine q_seq ?_
      refine rg ?_
      iterate 3 refine ww ?_
      refine nl ?_
      refine rn (x := k) (k + 1) ⟨hkn, up_step hall hx hok⟩ (by omega) sbz_ slz_
 ·
  have hkn : k = n := by have := of_decide_eq_false h0; omega
  have hE : abssOk m ab = decide ((n : Int) ≤ 8) := by
   unfold abssOk
   rw [all_upto (fun i y hi hy => hall i y (by omega) hy), Bool.and_true]
   exact decide_eq_decide.2 (by omega)
  refine et ?_
  iterate 2 refine q_then_exit ?_
  refine q_blk_hit ?_
  refine q_seq ?_
  refine sr ?_
  iterate 4 refine ww ?_
  refine nq ?_
  refine rtn ?_
  refine q_ret (hR := ?_)
  rw [hE]
  exact fun w hS => ⟨rfl, hS.sub slz_⟩
theorem C_ref4_isReport (m : Int) (x : Rp) (hm : 1 ≤ m ∧ m ≤ 16) (w : World) : C0 Tryz.prog 65 [.int .i64 m, x.val] w (.bool (repOk m x)) := by
 refine ⟨en Tryz.func65 Tryz.ntmps65 (St.init w) (h := fun F => ?_)⟩
 refine sr ?_
 refine bxA (h := fun b0 => ?_)
 refine ww ?_
 refine nr ?_
 iterate 2 refine ww ?_
 refine cl0 (hc := fun w hS => C_ref4_within _ _ _ w) (h := ?_)
 refine ww ?_
 apply brAnd 6 8 14 (by exact rfl)
 ·
  intro hb0
  iterate 4 refine uw ?_
  refine uz ?_
  refine cl0 (hc := fun w hS => C_ref4_within _ _ _ w) (h := ?_)
  refine ww ?_
  exact mg (by repeat (first | exact trivial | refine ⟨rfl, ?_⟩ | refine ⟨by rw [hb0]; rfl, ?_⟩)) slz_
 ·
  intro hb0
  repeat (first | refine uz ?_ | refine kz ?_ | refine wz ?_)
  exact mg (by repeat (first | exact trivial | refine ⟨rfl, ?_⟩ | refine ⟨by rw [hb0]; rfl, ?_⟩)) slz_
 refine ww ?_
 apply brAnd 4 15 19 (by exact rfl)
 ·
  intro hb1
  iterate 2 refine uw ?_
  refine uz ?_
  refine cl0 (hc := fun w hS => C_ref4_within _ _ _ w) (h := ?_)
  refine ww ?_
  exact mg (by repeat (first | exact trivial | refine ⟨rfl, ?_⟩ | refine ⟨by rw [hb1]; rfl, ?_⟩)) slz_
 ·
  intro hb1
  repeat (first | refine uz ?_ | refine kz ?_ | refine wz ?_)
  exact mg (by repeat (first | exact trivial | refine ⟨rfl, ?_⟩ | refine ⟨by rw [hb1]; rfl, ?_⟩)) slz_
 refine ww ?_
 apply brAnd 4 20 24 (by exact rfl)
 ·
  intro hb2
  iterate 2 refine uw ?_
  refine uz ?_
  refine cl0 (hc := fun w hS => C_ref4_within _ _ _ w) (h := ?_)
  refine ww ?_
  exact mg (by repeat (first | exact trivial | refine ⟨rfl, ?_⟩ | refine ⟨by rw [hb2]; rfl, ?_⟩)) slz_
 ·
  intro hb2
  repeat (first | refine uz ?_ | refine kz ?_ | refine wz ?_)
  exact mg (by repeat (first | exact trivial | refine ⟨rfl, ?_⟩ | refine ⟨by rw [hb2]; rfl, ?_⟩)) slz_
 refine ww ?_
 refine nq ?_
 refine rtn ?_
 refine q_ret (hR := ?_)
 exact fun w hS => ⟨rfl, hS.sub slz_⟩
theorem led_split (l : Lg) : ledOk l = (!((((!wi l.players 1 16 || !wi l.counts 1 20) || decide ((40 : Int) < l.rs.length)) || !abssOk l.players l.bs) || !abssOk l.players l.fs) && (l.rs.all (repOk l.players) && apartA l.fs)) := by
 unfold ledOk
 have e : decide (l.rs.length ≤ 40) = !decide ((40 : Int) < l.rs.length) := by
  rw [Bool.eq_iff_iff]; simp only [decide_eq_true_eq, Bool.not_eq_true', decide_eq_false_iff_not]; omega
 rw [e]
 cases wi l.players 1 16 <;> cases wi l.counts 1 20 <;> cases decide ((40 : Int) < l.rs.length) <;> cases abssOk l.players l.bs <;> cases abssOk l.players l.fs <;> rfl
theorem met_at {l : List Ab} {k : Nat} {x : Ab} (h : l[k]? = some x) : metAt l k = (l.take k).any fun b => meetA x b := by unfold metAt; rw [h]
theorem take_at {α : Type} {l : List α} {k j : Nat} {y : α} (h : l[j]? = some y) (hj : j < k) : (l.take k)[j]? = some y := by rw [List.getElem?_take, if_pos hj]; exact h
theorem any_none {α : Type} {l : List α} {p : α → Bool} {k : Nat} (h : ∀ (j : Nat) y, j < k → l[j]? = some y → p y = false) : (l.take k).any p = false := List.any_eq_false.2 fun y hy => by
 obtain ⟨j, hj, e⟩ := List.getElem_of_mem hy
 rw [List.length_take] at hj
 rw [List.getElem_take] at e
 rw [h j y (by omega) (by rw [List.getElem?_eq_getElem (by omega), e])]; decide
set_option maxRecDepth 100000 in
set_option maxHeartbeats 4000000 in
theorem C_ref4_isLedger (l : Lg) (a : LgA) (w : World) (h : LgR w l a) : C0 Tryz.prog 27 [l.val a] w (.bool (ledOk l)) := by
 have hrc := h.rn
 have hbc := h.bn
 have hfc := h.fn
 have hsp := led_split l
 refine ⟨en Tryz.func27 Tryz.ntmps27 ((((St.init w).share (e := .ro a.rA 5 l.rs.length (l.rs.map Rp.enc)) h.r rfl rfl rfl).share (e := .ro a.bA 3 l.bs.length (l.bs.map Ab.enc)) h.b rfl rfl rfl).share (e := .ro a.fA 3 l.fs.length (l.fs.map Ab.enc)) h.f rfl rfl rfl) (h := fun F => ?_)⟩
 refine sr ?_
 refine bxA (h := fun b0 => ?_)
 refine ww ?_
 refine nq ?_
 refine sq ?_
 refine sr ?_
 iterate 2 refine ww ?_
 refine cl0 (hc := fun w hS => C_ref4_within _ _ _ w) (h := ?_)
 iterate 2 refine ww ?_
 apply brOr 5 12 17 (by exact rfl)
 ·
  intro hb0
  iterate 2 refine uw ?_
  refine uz ?_
  refine cl0 (hc := fun w hS => C_ref4_within _ _ _ w) (h := ?_)
  refine uw ?_
  refine ww ?_
  exact mg (by repeat (first | exact trivial | refine ⟨rfl, ?_⟩ | refine ⟨by rw [hb0]; rfl, ?_⟩)) slz_
 ·
  intro hb0
  repeat (first | refine uz ?_ | refine kz ?_ | refine wz ?_)
  exact mg (by repeat (first | exact trivial | refine ⟨rfl, ?_⟩ | refine ⟨by rw [hb0]; rfl, ?_⟩)) slz_
 refine ww ?_
 apply brOr 5 18 23 (by exact rfl)
 ·
  intro hb1
  iterate 4 refine uw ?_
  refine ww ?_
  exact mg (by repeat (first | exact trivial | refine ⟨rfl, ?_⟩ | refine ⟨by rw [hb1]; rfl, ?_⟩)) slz_
 ·
  intro hb1
  repeat (first | refine uz ?_ | refine kz ?_ | refine wz ?_)
  exact mg (by repeat (first | exact trivial | refine ⟨rfl, ?_⟩ | refine ⟨by rw [hb1]; rfl, ?_⟩)) slz_
 refine ww ?_
 apply brOr 7 24 31 (by exact rfl)
 ·
  intro hb2
  have hpl : 1 ≤ l.players ∧ l.players ≤ 16 := by
   have e := hb2
   simp only [Bool.or_eq_false_iff] at e
   exact wi_not.1 e.1.1
  iterate 4 refine uw ?_
  refine uz ?_
  refine cl0 (hc := fun w hS => C_ref4_areLeaves l.players l.bs a.bA l.bs.length a.bc hpl rfl (by omega) w (hS.get rdz_)) (h := ?_)
  refine uw ?_
  refine ww ?_
  exact mg (by repeat (first | exact trivial | refine ⟨rfl, ?_⟩ | refine ⟨by rw [hb2]; rfl, ?_⟩)) slz_
 ·
  intro hb2
  repeat (first | refine uz ?_ | refine kz ?_ | refine wz ?_)
  exact mg (by repeat (first | exact trivial | refine ⟨rfl, ?_⟩ | refine ⟨by rw [hb2]; rfl, ?_⟩)) slz_
 refine ww ?_
 apply brOr 7 32 39 (by exact rfl)
 ·
  intro hb3
  have hpl : 1 ≤ l.players ∧ l.players ≤ 16 := by
   have e := hb3
   simp only [Bool.or_eq_false_iff] at e
   exact wi_not.1 e.1.1.1
  iterate 4 refine uw ?_
  refine uz ?_
  refine cl0 (hc := fun w hS => C_ref4_areLeaves l.players l.fs a.fA l.fs.length a.fc hpl rfl (by omega) w (hS.get rdz_)) (h := ?_)
  refine uw ?_
  refine ww ?_
  exact mg (by repeat (first | exact trivial | refine ⟨rfl, ?_⟩ | refine ⟨by rw [hb3]; rfl, ?_⟩)) slz_
 ·
  intro hb3
  repeat (first | refine uz ?_ | refine kz ?_ | refine wz ?_)
  exact mg (by repeat (first | exact trivial | refine ⟨rfl, ?_⟩ | refine ⟨by rw [hb3]; rfl, ?_⟩)) slz_
 refine nq ?_
 refine czz (fun h4 => ?_) fun h4 => ?_
 ·
  have hE : ledOk l = false := by rw [hsp, h4]; rfl
  refine sr ?_
  refine ww ?_
  refine nq ?_
  refine rtn ?_
  refine q_then_ret ?_
  refine q_ret (hR := ?_)
  rw [hE]
  exact fun w hS => ⟨rfl, hS.sub slz_⟩
 ·
  have h00 := h4
  rw [h00, Bool.not_false, Bool.true_and] at hsp
  have hpl : 1 ≤ l.players ∧ l.players ≤ 16 := by
   simp only [Bool.or_eq_false_iff] at h00
   exact wi_not.1 h00.1.1.1.1
  refine skp ?_
  refine q_seq ?_
  refine sq ?_
  refine sr ?_
  refine ww ?_
  refine nq ?_
  refine bk ?_
  refine lp (X := Nat) (I := fun k => k ≤ l.rs.length ∧ ∀ (i : Nat) y, i < k → l.rs[i]? = some y → repOk l.players y = true) (le := fun k => [(1, .pointer (some ⟨b0, 0, none⟩)), (3, .int .i64 k)]) (Le := fun _ => [.blk b0 25 (l.cells a), .ro a.rA 5 l.rs.length (l.rs.map Rp.enc), .ro a.bA 3 l.bs.length (l.bs.map Ab.enc), .ro a.fA 3 l.fs.length (l.fs.map Ab.enc)]) (μ := fun k => l.rs.length - k) 0 ⟨Nat.zero_le _, fun i y hi => by omega⟩ sbz_ slz_ (fun k hk => ?_)
  obtain ⟨hk0, hall⟩ := hk
  refine sq ?_
  refine sr ?_
  iterate 5 refine ww ?_
  refine nq ?_
  refine czz (fun h5 => ?_) fun h5 => ?_
  ·
   have hkn : k < l.rs.length := by have := of_decide_eq_true h5; omega
   obtain ⟨x, hx⟩ : ∃ x, l.rs[k]? = some x := ⟨_, List.getElem?_eq_getElem hkn⟩
   refine skp ?_
   refine q_seq ?_
   refine sq ?_
   refine bk ?_
   refine sq ?_
   refine rgD0 (by kernel_rfl) (h := ?_)
   refine tw 0 ?_
   refine tw 1 ?_
   refine tw 2 ?_
   refine tw 3 ?_
   refine tw 4 ?_
   refine tk 5 (hy := ix (A := a.rA) (m := l.rs.length)) (h := ?_)
   refine tk 6 (hy := ldEW (A := a.rA) (k := k) (cs := x.enc) (hk := rp_at hx)) (h := ?_)
   refine one 7 (h := ?_)
   refine cl0 (hc := fun w hS => C_ref4_isReport l.players x hpl w) (h := ?_)
   refine nx (h := ?_)
   refine tw 8 ?_
   refine dn (h := ?_)
   refine q_seq ?_
   refine czz (fun h6 => ?_) fun h6 => ?_
   ·
    have hE : ledOk l = false := by rw [hsp, all_bad_at hx (show repOk l.players x = false by simpa using h6)]; rfl
    refine sr ?_
    refine ww ?_
    refine nq ?_
    refine rtn ?_
    refine q_blk_ret ?_
    iterate 2 refine q_then_ret ?_
    refine q_blk_ret ?_
    refine q_then_ret ?_
    refine q_ret (hR := ?_)
    rw [hE]
    exact fun w hS => ⟨rfl, hS.sub slz_⟩
   ·
    have hok : repOk l.players x = true := by simpa using h6
    refine skp ?_
    refine q_blk_norm ?_
    refine q_seq ?_
    refine rg ?_
    iterate 3 refine ww ?_
    refine nl ?_
    refine rn (x := k) (k + 1) ⟨hkn, up_step hall hx hok⟩ (by omega) sbz_ slz_
  ·
   have hkn : k = l.rs.length := by have := of_decide_eq_false h5; omega
   rw [all_upto (fun i y hi hy => hall i y (by omega) hy), Bool.true_and] at hsp
   refine et ?_
   iterate 2 refine q_then_exit ?_
   refine q_blk_hit ?_
   refine q_seq ?_
   refine sq ?_
   refine sr ?_
   refine ww ?_
   refine nq ?_
   refine bk ?_
   refine lp (X := Nat) (I := fun k => k ≤ l.fs.length ∧ ∀ i, i < k → metAt l.fs i = false) (le := fun k => [(1, .pointer (some ⟨b0, 0, none⟩)), (4, .int .i64 k)]) (Le := fun _ => [.blk b0 25 (l.cells a), .ro a.rA 5 l.rs.length (l.rs.map Rp.enc), .ro a.bA 3 l.bs.length (l.bs.map Ab.enc), .ro a.fA 3 l.fs.length (l.fs.map Ab.enc)]) (μ := fun k => l.fs.length - k) 0 ⟨Nat.zero_le _, fun i hi => by omega⟩ sbz_ slz_ (fun k hk => ?_)
   obtain ⟨hk0, hall2⟩ := hk
   refine sq ?_
   refine sr ?_
   iterate 5 refine ww ?_
   refine nq ?_
   refine czz (fun h7 => ?_) fun h7 => ?_
   ·
    have hkn : k < l.fs.length := by have := of_decide_eq_true h7; omega
    obtain ⟨x, hx⟩ : ∃ x, l.fs[k]? = some x := ⟨_, List.getElem?_eq_getElem hkn⟩
    have hma := met_at hx
    refine skp ?_
    refine q_seq ?_
    refine sq ?_
    refine bk ?_
    refine sr ?_
    refine ww ?_
    refine nq ?_
    refine bk ?_
    refine lp (X := Nat) (I := fun j => j ≤ k ∧ ∀ (i : Nat) z, i < j → l.fs[i]? = some z → meetA x z = false) (le := fun j => [(1, .pointer (some ⟨b0, 0, none⟩)), (4, .int .i64 k), (5, .int .i64 j)]) (Le := fun _ => [.blk b0 25 (l.cells a), .ro a.rA 5 l.rs.length (l.rs.map Rp.enc), .ro a.bA 3 l.bs.length (l.bs.map Ab.enc), .ro a.fA 3 l.fs.length (l.fs.map Ab.enc)]) (μ := fun j => k - j) 0 ⟨Nat.zero_le _, fun i y hi => by omega⟩ sbz_ slz_ (fun j hj => ?_)
    obtain ⟨hj0, hall3⟩ := hj
    refine sq ?_
    refine sr ?_
    iterate 3 refine ww ?_
    refine nq ?_
    refine czz (fun h8 => ?_) fun h8 => ?_
    ·
     have hjk : j < k := by have := of_decide_eq_true h8; omega
     obtain ⟨y, hy⟩ : ∃ y, l.fs[j]? = some y := ⟨_, List.getElem?_eq_getElem (by omega)⟩
     refine skp ?_
     refine q_seq ?_
     refine sq ?_
     refine bk ?_
     refine ct (X := Nat × Nat) (fun _ => True) (fun z => [(1, .pointer (some ⟨b0, 0, none⟩)), (4, .int .i64 k), (5, .int .i64 j), (6, .pointer (some ⟨z.1, 0, none⟩)), (7, .pointer (some ⟨z.2, 0, none⟩))]) (fun z => [.blk z.1 115 x.enc, .blk z.2 115 y.enc, .blk b0 25 (l.cells a), .ro a.rA 5 l.rs.length (l.rs.map Rp.enc), .ro a.bA 3 l.bs.length (l.bs.map Ab.enc), .ro a.fA 3 l.fs.length (l.fs.map Ab.enc)]) (h1 := ?_) (h2 := ?_)
     ·
      refine rgD0 (by kernel_rfl) (h := ?_)
      refine tw 0 ?_
      refine tw 1 ?_
      refine tw 2 ?_
      refine tk 3 (hy := ix (A := a.fA) (m := l.fs.length)) (h := ?_)
      refine tk 4 (hy := ldEW (A := a.fA) (k := k) (cs := x.enc) (hk := ab_at hx)) (h := ?_)
      refine tw 5 ?_
      refine tw 6 ?_
      refine tw 7 ?_
      refine tk 8 (hy := ix (A := a.fA) (m := l.fs.length)) (h := ?_)
      refine tk 9 (hy := ldEW (A := a.fA) (k := j) (cs := y.enc) (hk := ab_at hy)) (h := ?_)
      refine two 10 11 (h1 := ?_) (h2 := ?_)
      ·
       refine al (h := fun u1 => ?_)
       refine nx (h := ?_)
       refine one 11 (h := ?_)
       refine al (h := fun u2 => ?_)
       refine nx (h := ?_)
       refine one 12 (h := ?_)
       first | refine stA (h := ?_) | refine stEA (h := ?_)
       refine nx (h := ?_)
       refine one 13 (h := ?_)
       first | refine stA (h := ?_) | refine stEA (h := ?_)
       refine nx (h := ?_)
       refine dn (h := ?_)
       exact ctn (u1, u2) trivial sbz_ slz_
      ·
       refine al (h := fun u2 => ?_)
       refine nx (h := ?_)
       refine one 10 (h := ?_)
       refine al (h := fun u1 => ?_)
       refine nx (h := ?_)
       refine one 12 (h := ?_)
       first | refine stA (h := ?_) | refine stEA (h := ?_)
       refine nx (h := ?_)
       refine one 13 (h := ?_)
       first | refine stA (h := ?_) | refine stEA (h := ?_)
       refine nx (h := ?_)
       refine dn (h := ?_)
       exact ctn (u1, u2) trivial sbz_ slz_
     rintro ⟨u1, u2⟩ -
     refine sr ?_
     iterate 6 refine ww ?_
     apply brAnd 6 83 89 (by exact rfl)
     ·
      intro hb9
      iterate 5 refine uw ?_
      refine ww ?_
      exact mg (by repeat (first | exact trivial | refine ⟨rfl, ?_⟩ | refine ⟨by rw [hb9]; rfl, ?_⟩)) slz_
     ·
      intro hb9
      repeat (first | refine uz ?_ | refine kz ?_ | refine wz ?_)
      exact mg (by repeat (first | exact trivial | refine ⟨rfl, ?_⟩ | refine ⟨by rw [hb9]; rfl, ?_⟩)) slz_
     refine ww ?_
     apply brAnd 6 90 96 (by exact rfl)
     ·
      intro hb10
      iterate 5 refine uw ?_
      refine ww ?_
      exact mg (by repeat (first | exact trivial | refine ⟨rfl, ?_⟩ | refine ⟨by rw [hb10]; rfl, ?_⟩)) slz_
     ·
      intro hb10
      repeat (first | refine uz ?_ | refine kz ?_ | refine wz ?_)
      exact mg (by repeat (first | exact trivial | refine ⟨rfl, ?_⟩ | refine ⟨by rw [hb10]; rfl, ?_⟩)) slz_
     refine nq ?_
     refine czz (fun h11 => ?_) fun h11 => ?_
     ·
      have hmt : metAt l.fs k = true := by rw [hma]; exact any_at (take_at hy hjk) (show meetA x y = true from h11)
      have hE : ledOk l = false := by
       rw [hsp, apartA]
       exact all_bad_at (List.getElem?_range hkn) (by rw [hmt]; rfl)
      refine sr ?_
      refine ww ?_
      refine nq ?_
      refine rtn ?_
      refine q_blk_ret ?_
      iterate 2 refine q_then_ret ?_
      iterate 2 refine q_blk_ret ?_
      iterate 2 refine q_then_ret ?_
      refine q_blk_ret ?_
      refine q_then_ret ?_
      refine q_ret (hR := ?_)
      rw [hE]
      exact fun w hS => ⟨rfl, hS.sub slz_⟩
     ·
      have hok : meetA x y = false := h11
      refine skp ?_
      refine q_blk_norm ?_
      refine q_seq ?_
      refine rg ?_
      iterate 3 refine ww ?_
      refine nl ?_
      refine rn (x := j) (j + 1) ⟨hjk, up_step hall3 hy hok⟩ (by omega) sbz_ slz_
    ·
     have hjk : j = k := by have := of_decide_eq_false h8; omega
     have hmf : metAt l.fs k = false := by rw [hma]; exact any_none (fun i z hi hz => hall3 i z (by omega) hz)
     refine et ?_
     iterate 2 refine q_then_exit ?_
     refine q_blk_hit ?_
     refine q_blk_norm ?_
     refine q_seq ?_
     refine rg ?_
     iterate 3 refine ww ?_
     refine nl ?_
     refine rn (x := k) (k + 1) ⟨hkn, fun i hi => by rcases (by omega : i < k ∨ i = k) with hi | rfl; exact hall2 i hi; exact hmf⟩ (by omega) sbz_ slz_
   ·
    have hkn : k = l.fs.length := by have := of_decide_eq_false h7; omega
    have hE : ledOk l = true := by
     rw [hsp, apartA]
     exact List.all_eq_true.2 fun i hi => by rw [hall2 i (by have := List.mem_range.1 hi; omega)]; rfl
    refine et ?_
    iterate 2 refine q_then_exit ?_
    refine q_blk_hit ?_
    refine q_seq ?_
    refine sr ?_
    refine ww ?_
    refine nq ?_
    refine rtn ?_
    refine q_ret (hR := ?_)
    rw [hE]
    exact fun w hS => ⟨rfl, hS.sub slz_⟩
theorem cl_at {l : List Rp} {k : Nat} {x : Rp} (h : l[k]? = some x) : clAt l k = (l.take k).any fun b => decide (x.id = b.id) && !decide (x = b) := by unfold clAt; rw [h]
set_option maxRecDepth 100000 in
set_option maxHeartbeats 1000000 in
theorem C_ref4_clash (l : List Rp) (A : Option Addr) (n c : Nat) (hl : l.length = n) (hn : n ≤ 9223372036854775807) (w : World) (h : Rd w A 5 n (l.map Rp.enc)) : C0 Tryz.prog 28 [.slice A n c] w (.bool (clV l)) := by
 refine ⟨en Tryz.func28 Tryz.ntmps28 ((St.init w).share (e := .ro A 5 n (l.map Rp.enc)) h rfl rfl rfl) (h := fun F => ?_)⟩
 refine sr ?_
 refine ww ?_
 refine nq ?_
 refine sq ?_
 refine sr ?_
 refine ww ?_
 refine nq ?_
 refine bk ?_
 refine lp (X := Nat) (I := fun k => k ≤ n ∧ ∀ i, i < k → clAt l i = false) (le := fun k => [(0, .slice A n c), (3, .int .i64 k)]) (Le := fun _ => [.ro A 5 n (l.map Rp.enc)]) (μ := fun k => n - k) 0 ⟨Nat.zero_le _, fun i hi => by omega⟩ sbz_ slz_ (fun k hk => ?_)
 obtain ⟨hk0, hall2⟩ := hk
 refine sq ?_
 refine sr ?_
 iterate 4 refine ww ?_
 refine nq ?_
 refine czz (fun h0 => ?_) fun h0 => ?_
 ·
  have hkn : k < n := by have := of_decide_eq_true h0; omega
  obtain ⟨x, hx⟩ : ∃ x, l[k]? = some x := ⟨_, List.getElem?_eq_getElem (by omega)⟩
  have hca := cl_at hx
  refine skp ?_
  refine q_seq ?_
  refine sq ?_
  refine bk ?_
  refine sr ?_
  refine ww ?_
  refine nq ?_
  refine bk ?_
  refine lp (X := Nat) (I := fun j => j ≤ k ∧ ∀ (i : Nat) z, i < j → l[i]? = some z → (decide (x.id = z.id) && !decide (x = z)) = false) (le := fun j => [(0, .slice A n c), (3, .int .i64 k), (4, .int .i64 j)]) (Le := fun _ => [.ro A 5 n (l.map Rp.enc)]) (μ := fun j => k - j) 0 ⟨Nat.zero_le _, fun i y hi => by omega⟩ sbz_ slz_ (fun j hj => ?_)
  obtain ⟨hj0, hall3⟩ := hj
  refine sq ?_
  refine sr ?_
  iterate 3 refine ww ?_
  refine nq ?_
  refine czz (fun h1 => ?_) fun h1 => ?_
  ·
   have hjk : j < k := by have := of_decide_eq_true h1; omega
   obtain ⟨y, hy⟩ : ∃ y, l[j]? = some y := ⟨_, List.getElem?_eq_getElem (by omega)⟩
   refine skp ?_
   refine q_seq ?_
   refine sq ?_
   refine bk ?_
   refine sq ?_
   refine rgD0 (by kernel_rfl) (h := ?_)
   refine tw 0 ?_
   refine tw 1 ?_
   refine tk 2 (hy := ix (A := A) (m := n)) (h := ?_)
   refine tk 3 (hy := faE (A := A)) (h := ?_)
   refine tk 4 (hy := ldE (A := A) (hk := rp_at hx)) (h := ?_)
   refine tw 5 ?_
   refine tw 6 ?_
   refine tk 7 (hy := ix (A := A) (m := n)) (h := ?_)
   refine tk 8 (hy := faE (A := A)) (h := ?_)
   refine tk 9 (hy := ldE (A := A) (hk := rp_at hy)) (h := ?_)
   refine tw 10 ?_
   refine tw 11 ?_
   refine brH (g := 27) (by exact rfl) (fun hb2 => ?_) (fun hb2 => ?_)
   ·
    have g27 : decide (x.id = y.id) = true := hb2
    refine tw 12 ?_
    refine tw 13 ?_
    refine tk 14 (hy := ix (A := A) (m := n)) (h := ?_)
    refine tk 15 (hy := ldEW (A := A) (k := k) (cs := x.enc) (hk := rp_at hx)) (h := ?_)
    refine tw 16 ?_
    refine tw 17 ?_
    refine tk 18 (hy := ix (A := A) (m := n)) (h := ?_)
    refine tk 19 (hy := ldEW (A := A) (k := j) (cs := y.enc) (hk := rp_at hy)) (h := ?_)
    refine tk 20 (hy := (Yd.to (v' := .bool (!decide (x = y))) neqF (by show Value.bool (!decide (rpF x = rpF y)) = _; rw [dec_rp]))) (h := ?_)
    refine tw 21 ?_
    refine dn (h := ?_)
    refine q_seq ?_
    refine czz (fun h3 => ?_) fun h3 => ?_
    ·
     have hcl : clAt l k = true := by rw [hca]; exact any_at (take_at hy hjk) (by rw [g27, show (!decide (x = y)) = true from h3]; rfl)
     have hE : clV l = true := any_at (List.getElem?_range (by omega)) hcl
     refine sr ?_
     refine ww ?_
     refine nq ?_
     refine rtn ?_
     refine q_blk_ret ?_
     iterate 2 refine q_then_ret ?_
     iterate 2 refine q_blk_ret ?_
     iterate 2 refine q_then_ret ?_
     refine q_blk_ret ?_
     refine q_then_ret ?_
     refine q_ret (hR := ?_)
     rw [hE]
     exact fun w hS => ⟨rfl, hS.sub slz_⟩
    ·
     have hok2 : (decide (x.id = y.id) && !decide (x = y)) = false := by
      first
       | exact hok
       | (rw [show (!decide (x = y)) = false by assumption, Bool.and_false])
     refine skp ?_
     refine q_blk_norm ?_
     refine q_seq ?_
     refine rg ?_
     iterate 3 refine ww ?_
     refine nl ?_
     refine rn (x := j) (j + 1) ⟨hjk, up_step hall3 hy hok2⟩ (by omega) sbz_ slz_
   ·
    have hok : (decide (x.id = y.id) && !decide (x = y)) = false := by rw [show decide (x.id = y.id) = false from hb2]; rfl
    refine tkS 12 (h := ?_)
    refine tkS 13 (h := ?_)
    refine tkS 14 (h := ?_)
    refine tkS 15 (h := ?_)
    refine tkS 16 (h := ?_)
    refine tkS 17 (h := ?_)
    refine tkS 18 (h := ?_)
    refine tkS 19 (h := ?_)
    refine tkS 20 (h := ?_)
    refine tw 21 ?_
    refine dn (h := ?_)
    refine q_seq ?_
    refine cdF (h := ?_)
    have hok2 : (decide (x.id = y.id) && !decide (x = y)) = false := by
     first
      | exact hok
      | (rw [show (!decide (x = y)) = false by assumption, Bool.and_false])
    refine skp ?_
    refine q_blk_norm ?_
    refine q_seq ?_
    refine rg ?_
    iterate 3 refine ww ?_
    refine nl ?_
    refine rn (x := j) (j + 1) ⟨hjk, up_step hall3 hy hok2⟩ (by omega) sbz_ slz_
  ·
   have hjk : j = k := by have := of_decide_eq_false h1; omega
   have hmf : clAt l k = false := by rw [hca]; exact any_none (fun i z hi hz => hall3 i z (by omega) hz)
   refine et ?_
   iterate 2 refine q_then_exit ?_
   refine q_blk_hit ?_
   refine q_blk_norm ?_
   refine q_seq ?_
   refine rg ?_
   iterate 3 refine ww ?_
   refine nl ?_
   refine rn (x := k) (k + 1) ⟨hkn, fun i hi => by rcases (by omega : i < k ∨ i = k) with hi | rfl; exact hall2 i hi; exact hmf⟩ (by omega) sbz_ slz_
 ·
  have hkn : k = n := by have := of_decide_eq_false h0; omega
  have hE : clV l = false := List.any_eq_false.2 fun i hi => by rw [hall2 i (by have := List.mem_range.1 hi; omega)]; decide
  refine et ?_
  iterate 2 refine q_then_exit ?_
  refine q_blk_hit ?_
  refine q_seq ?_
  refine sr ?_
  refine ww ?_
  refine nq ?_
  refine rtn ?_
  refine q_ret (hR := ?_)
  rw [hE]
  exact fun w hS => ⟨rfl, hS.sub slz_⟩
theorem C_ref4_Check (l : Lg) (a : LgA) (w : World) (h : LgR w l a) : C0 Tryz.prog 7 [l.val a] w (.int .i64 (lgE l)) := by
 have hrc := h.rn
 refine ⟨en Tryz.func7 Tryz.ntmps7 ((St.init w).share (e := .ro a.rA 5 l.rs.length (l.rs.map Rp.enc)) h.r rfl rfl rfl) (h := fun F => ?_)⟩
 refine sr ?_
 refine bxA (h := fun b0 => ?_)
 refine ww ?_
 refine nq ?_
 refine sq ?_
 refine sr ?_
 refine ww ?_
 refine cl0 (hc := fun w hS => C_ref4_isLedger l a w (h.old hS)) (h := ?_)
 refine ww ?_
 refine nq ?_
 refine czz (fun h0 => ?_) fun h0 => ?_
 ·
  have hE : lgE l = 40 := by rw [lgE, h0]; rfl
  refine sr ?_
  refine ww ?_
  refine nq ?_
  refine rtn ?_
  refine q_then_ret ?_
  refine q_ret (hR := ?_)
  rw [hE]
  exact fun w hS => ⟨rfl, hS.sub slz_⟩
 ·
  have h00 := h0
  refine skp ?_
  refine q_seq ?_
  refine sq ?_
  refine sr ?_
  iterate 2 refine ww ?_
  refine cl0 (hc := fun w hS => C_ref4_clash l.rs a.rA l.rs.length a.rc rfl (by omega) w (hS.get rdz_)) (h := ?_)
  refine nq ?_
  refine czz (fun h1 => ?_) fun h1 => ?_
  ·
   have hE : lgE l = 41 := by rw [lgE, h00, h1]; rfl
   refine sr ?_
   refine ww ?_
   refine nq ?_
   refine rtn ?_
   refine q_then_ret ?_
   refine q_ret (hR := ?_)
   rw [hE]
   exact fun w hS => ⟨rfl, hS.sub slz_⟩
  ·
   have hE : lgE l = 0 := by rw [lgE, h00, h1]; rfl
   refine skp ?_
   refine q_seq ?_
   refine sr ?_
   refine ww ?_
   refine nq ?_
   refine rtn ?_
   refine q_ret (hR := ?_)
   rw [hE]
   exact fun w hS => ⟨rfl, hS.sub slz_⟩
def farL (l : Lg) : Bool := (decide ((60 : Int) < l.rs.length) || decide ((20 : Int) < l.bs.length) || decide ((20 : Int) < l.fs.length)) || (decide (lgE l = 0) && (l.rs.any (fun r => decide (150 < r.wk)) || (decide (5 < l.players) || decide ((10 : Int) < l.rs.length))))
theorem far_lg {l : Lg} (h : farL l = false) (h0 : lgE l = 0) : l.players ≤ 5 ∧ l.rs.length ≤ 10 := by
 unfold farL at h
 rw [h0] at h
 simp only [decide_true, Bool.true_and, Bool.or_eq_false_iff, decide_eq_false_iff_not] at h
 omega
theorem C_law4_Far (l : Lg) (a : LgA) (w : World) (h : LgR w l a) : C0 Tryz.prog 6 [l.val a] w (.bool (farL l)) := by
 have hrc := h.rn
 have hbc := h.bn
 have hfc := h.fn
 refine ⟨en Tryz.func6 Tryz.ntmps6 ((((St.init w).share (e := .ro a.rA 5 l.rs.length (l.rs.map Rp.enc)) h.r rfl rfl rfl).share (e := .ro a.bA 3 l.bs.length (l.bs.map Ab.enc)) h.b rfl rfl rfl).share (e := .ro a.fA 3 l.fs.length (l.fs.map Ab.enc)) h.f rfl rfl rfl) (h := fun F => ?_)⟩
 refine sr ?_
 refine bxA (h := fun b0 => ?_)
 refine ww ?_
 refine nq ?_
 refine sq ?_
 refine sr ?_
 iterate 5 refine ww ?_
 apply brOr 5 8 13 (by exact rfl)
 ·
  intro hb0
  iterate 4 refine uw ?_
  refine ww ?_
  exact mg (by repeat (first | exact trivial | refine ⟨rfl, ?_⟩ | refine ⟨by rw [hb0]; rfl, ?_⟩)) slz_
 ·
  intro hb0
  repeat (first | refine uz ?_ | refine kz ?_ | refine wz ?_)
  exact mg (by repeat (first | exact trivial | refine ⟨rfl, ?_⟩ | refine ⟨by rw [hb0]; rfl, ?_⟩)) slz_
 refine ww ?_
 apply brOr 5 14 19 (by exact rfl)
 ·
  intro hb1
  iterate 4 refine uw ?_
  refine ww ?_
  exact mg (by repeat (first | exact trivial | refine ⟨rfl, ?_⟩ | refine ⟨by rw [hb1]; rfl, ?_⟩)) slz_
 ·
  intro hb1
  repeat (first | refine uz ?_ | refine kz ?_ | refine wz ?_)
  exact mg (by repeat (first | exact trivial | refine ⟨rfl, ?_⟩ | refine ⟨by rw [hb1]; rfl, ?_⟩)) slz_
 refine nq ?_
 refine czz (fun h2 => ?_) fun h2 => ?_
 ·
  have hE : farL l = true := by rw [farL, h2]; rfl
  refine sr ?_
  refine ww ?_
  refine nq ?_
  refine rtn ?_
  refine q_then_ret ?_
  refine q_ret (hR := ?_)
  rw [hE]
  exact fun w hS => ⟨rfl, hS.sub slz_⟩
 ·
  have h00 := h2
  refine skp ?_
  refine q_seq ?_
  refine sq ?_
  refine sr ?_
  refine ww ?_
  refine cl0 (hc := fun w hS => C_ref4_Check l a w (h.old hS)) (h := ?_)
  refine ww ?_
  refine nq ?_
  refine czz (fun h3 => ?_) fun h3 => ?_
  ·
   have hE : farL l = false := by rw [farL, h00, show decide (lgE l = 0) = false by simpa using h3]; rfl
   refine sr ?_
   refine ww ?_
   refine nq ?_
   refine rtn ?_
   refine q_then_ret ?_
   refine q_ret (hR := ?_)
   rw [hE]
   exact fun w hS => ⟨rfl, hS.sub slz_⟩
  ·
   have h01 : decide (lgE l = 0) = true := by simpa using h3
   have hfe : farL l = (l.rs.any (fun r => decide (150 < r.wk)) || (decide (5 < l.players) || decide ((10 : Int) < l.rs.length))) := by rw [farL, h00, h01]; rfl
   refine skp ?_
   refine q_seq ?_
   refine sq ?_
   refine sr ?_
   refine ww ?_
   refine nq ?_
   refine bk ?_
   refine lp (X := Nat) (I := fun k => k ≤ l.rs.length ∧ ∀ (i : Nat) y, i < k → l.rs[i]? = some y → ¬ 150 < y.wk) (le := fun k => [(1, .pointer (some ⟨b0, 0, none⟩)), (3, .int .i64 k)]) (Le := fun _ => [.blk b0 25 (l.cells a), .ro a.rA 5 l.rs.length (l.rs.map Rp.enc), .ro a.bA 3 l.bs.length (l.bs.map Ab.enc), .ro a.fA 3 l.fs.length (l.fs.map Ab.enc)]) (μ := fun k => l.rs.length - k) 0 ⟨Nat.zero_le _, fun i y hi => by omega⟩ sbz_ slz_ (fun k hk => ?_)
   obtain ⟨hk0, hall⟩ := hk
   refine sq ?_
   refine sr ?_
   iterate 5 refine ww ?_
   refine nq ?_
   refine czz (fun h4 => ?_) fun h4 => ?_
   ·
    have hkn : k < l.rs.length := by have := of_decide_eq_true h4; omega
    obtain ⟨x, hx⟩ : ∃ x, l.rs[k]? = some x := ⟨_, List.getElem?_eq_getElem hkn⟩
    refine skp ?_
    refine q_seq ?_
    refine sq ?_
    refine bk ?_
    refine sr ?_
    iterate 3 refine ww ?_
    refine wy (ix (A := a.rA) (m := l.rs.length)) ?_
    refine ww ?_
    refine wy (ldE (A := a.rA) (hk := rp_at hx)) ?_
    refine ww ?_
    refine nq ?_
    refine czz (fun h5 => ?_) fun h5 => ?_
    ·
     have hE : farL l = true := by rw [hfe, any_at (p := fun r : Rp => decide (150 < r.wk)) hx h5]; rfl
     refine sr ?_
     refine ww ?_
     refine nq ?_
     refine rtn ?_
     refine q_blk_ret ?_
     iterate 2 refine q_then_ret ?_
     refine q_blk_ret ?_
     refine q_then_ret ?_
     refine q_ret (hR := ?_)
     rw [hE]
     exact fun w hS => ⟨rfl, hS.sub slz_⟩
    ·
     have hok : ¬ 150 < x.wk := of_decide_eq_false h5
     refine skp ?_
     refine q_blk_norm ?_
     refine q_seq ?_
     refine rg ?_
     iterate 3 refine ww ?_
     refine nl ?_
     refine rn (x := k) (k + 1) ⟨hkn, up_step hall hx hok⟩ (by omega) sbz_ slz_
   ·
    have hkn : k = l.rs.length := by have := of_decide_eq_false h4; omega
    have hE : farL l = (decide (5 < l.players) || decide ((10 : Int) < l.rs.length)) := by
     have e := any_none (l := l.rs) (p := fun r => decide (150 < r.wk)) (k := l.rs.length) (fun i y hi hy => decide_eq_false (hall i y (by omega) hy))
     rw [List.take_length] at e
     rw [hfe, e, Bool.false_or]
    refine et ?_
    iterate 2 refine q_then_exit ?_
    refine q_blk_hit ?_
    refine q_seq ?_
    refine sr ?_
    iterate 4 refine ww ?_
    apply brOr 5 40 45 (by exact rfl)
    ·
     intro hb6
     iterate 4 refine uw ?_
     refine ww ?_
     exact mg (by repeat (first | exact trivial | refine ⟨rfl, ?_⟩ | refine ⟨by rw [hb6]; rfl, ?_⟩)) slz_
    ·
     intro hb6
     repeat (first | refine uz ?_ | refine kz ?_ | refine wz ?_)
     exact mg (by repeat (first | exact trivial | refine ⟨rfl, ?_⟩ | refine ⟨by rw [hb6]; rfl, ?_⟩)) slz_
    refine ww ?_
    refine nq ?_
    refine rtn ?_
    refine q_ret (hR := ?_)
    rw [hE]
    exact fun w hS => ⟨rfl, hS.sub slz_⟩
def exL : Lg := ⟨3, 2, [⟨1, 0, 10, 500, false⟩, ⟨2, 0, 20, 300, false⟩, ⟨3, 0, 30, 100, true⟩, ⟨4, 1, 12, 400, false⟩, ⟨5, 1, 40, 200, false⟩, ⟨6, 2, 15, 600, false⟩], [⟨1, 50, 55⟩], [⟨2, 20, 29⟩]⟩
theorem exL_ok : lgE exL = 0 := by kernel_rfl
theorem exL_list : lstV exL.open 40 = [0, 2, 1] := by kernel_rfl
structure ExL where
 (A1 A2 A3 : Option Addr)
theorem C_law4_Example (w : World) : CR Tryz.prog 29 [] w (fun _ : ExL => True) (fun x => exL.val ⟨x.A1, x.A2, x.A3, 6, 1, 1⟩) (fun x => [.own x.A1 6 90 5 6 (exL.rs.map Rp.enc), .own x.A2 1 115 3 1 (exL.bs.map Ab.enc), .own x.A3 1 115 3 1 (exL.fs.map Ab.enc)]) := by
 refine ⟨en Tryz.func29 Tryz.ntmps29 (St.init w) (h := fun F => ?_)⟩
 refine sr ?_
 refine al (h := fun b0 => ?_)
 refine nr ?_
 iterate 6 refine ww ?_
 refine bs (h := fun b1 => ?_)
 refine ww ?_
 refine bs (h := fun b2 => ?_)
 refine ww ?_
 refine bs (h := fun b3 => ?_)
 refine ww ?_
 first | refine stA (h := ?_) | refine stEA (h := ?_)
 refine nq ?_
 refine rtn ?_
 refine q_ret (hR := ?_)
 exact fun w hS => ⟨⟨_, _, _⟩, trivial, rfl, hS.sub slz_⟩
end Go.Proofs.YthkliiifllhacaaGreat

namespace Go.Proofs.YthkliiifllhacaaGreat
open Go Go.RowKit

abbrev reportSp : List Sp := [.int .i64, .int .i64, .int .i64, .int .i64, .bool]
abbrev absentSp : List Sp := [.int .i64, .int .i64, .int .i64]
abbrev ledgerSp : List Sp := [.int .i64, .int .i64, .sl reportSp, .sl absentSp, .sl absentSp]
abbrev ballotSp : List Sp := [.int .i64, .sl [.int .i64], .sl [.int .i64]]
theorem report_cells {w : World} {cs : List Value} (h : Mts w reportSp cs) : ∃ r : Rp, cs = r.enc := by
 obtain ⟨a1, cs, rfl, _, h⟩ := Mts.int_inv h
 obtain ⟨a2, cs, rfl, _, h⟩ := h.int_inv
 obtain ⟨a3, cs, rfl, _, h⟩ := h.int_inv
 obtain ⟨a4, cs, rfl, _, h⟩ := h.int_inv
 obtain ⟨a5, cs, rfl, h5⟩ := h.bool_inv
 obtain rfl := h5.nil_inv
 exact ⟨⟨a1, a2, a3, a4, a5⟩, rfl⟩
theorem absent_cells {w : World} {cs : List Value} (h : Mts w absentSp cs) : ∃ x : Ab, cs = x.enc := by
 obtain ⟨a1, cs, rfl, _, h⟩ := Mts.int_inv h
 obtain ⟨a2, cs, rfl, _, h⟩ := h.int_inv
 obtain ⟨a3, cs, rfl, _, h⟩ := h.int_inv
 rw [h.nil_inv]
 exact ⟨⟨a1, a2, a3⟩, rfl⟩
theorem ledger_open {w : World} {cs : List Value} (h : Mts w ledgerSp cs) : ∃ (l : Lg) (a : LgA), Value.agg cs.toArray = l.val a ∧ LgR w l a := by
 obtain ⟨k1, cs, rfl, _, h⟩ := Mts.int_inv h
 obtain ⟨k2, cs, rfl, _, h⟩ := h.int_inv
 obtain ⟨A, n, c, xs, cs, rfl, hr, hn, hx, h⟩ := h.sl_invc
 obtain ⟨B, m, d, ys, cs, rfl, hr2, hm, hy, h⟩ := h.sl_invc
 obtain ⟨C, k, e, zs, cs, rfl, hr3, hk, hz, h⟩ := h.sl_invc
 rw [h.nil_inv]
 obtain ⟨xs, rfl⟩ := map_of (f := Rp.enc) (xs := xs) fun x hxm => report_cells (hx x hxm)
 obtain ⟨ys, rfl⟩ := map_of (f := Ab.enc) (xs := ys) fun x hxm => absent_cells (hy x hxm)
 obtain ⟨zs, rfl⟩ := map_of (f := Ab.enc) (xs := zs) fun x hxm => absent_cells (hz x hxm)
 have hl : xs.length = n := by have := hr.len; simpa using this
 have hl2 : ys.length = m := by have := hr2.len; simpa using this
 have hl3 : zs.length = k := by have := hr3.len; simpa using this
 subst hl hl2 hl3
 exact ⟨⟨k1, k2, xs, ys, zs⟩, ⟨A, B, C, c, d, e⟩, rfl, hr, hr2, hr3, hn, hm, hk⟩
structure BtA where
 (wk : Int) (ns lots : List Int) (B C : Option Addr) (cb cc : Nat)
theorem ballot_open {w : World} {cs : List Value} (h : Mts w ballotSp cs) : ∃ x : BtA, Value.agg cs.toArray = .agg #[.int .i64 x.wk, .slice x.B x.ns.length x.cb, .slice x.C x.lots.length x.cc] ∧ Rd w x.B 1 x.ns.length (enI x.ns) ∧ Rd w x.C 1 x.lots.length (enI x.lots) ∧ x.ns.length ≤ 9223372036854775807 ∧ x.lots.length ≤ 9223372036854775807 := by
 obtain ⟨k1, cs, rfl, _, h⟩ := Mts.int_inv h
 obtain ⟨A, n, c, xs, cs, rfl, hr, hn, hx, h⟩ := h.sl_invc
 obtain ⟨B, m, d, ys, cs, rfl, hr2, hm, hy, h⟩ := h.sl_invc
 rw [h.nil_inv]
 obtain ⟨xs, rfl⟩ := ints_of hx
 obtain ⟨ys, rfl⟩ := ints_of hy
 have hl : xs.length = n := by have := hr.len; rwa [enI_len] at this
 have hl2 : ys.length = m := by have := hr2.len; rwa [enI_len] at this
 subst hl hl2
 exact ⟨⟨k1, xs, ys, A, B, c, d⟩, rfl, hr, hr2, by show xs.length ≤ _; omega, by show ys.length ≤ _; omega⟩
end Go.Proofs.YthkliiifllhacaaGreat

namespace Go.Proofs.YthkliiifllhacaaGreat
open Go Go.RowKit

structure DP where
 (i j : Nat) (zs : List Ps)
structure DP.Ok (z : DP) (xs : List Ps) (p : Ps → Bool) : Prop where
 lt : z.i < z.j
 le : z.j ≤ xs.length
 len : z.zs.length = xs.length
 tk : z.zs.take z.i = (xs.take z.j).filter (fun x => !p x)
 dr : z.zs.drop z.j = xs.drop z.j
theorem DP.start {xs : List Ps} {p : Ps → Bool} {k : Nat} {x : Ps} (hx : xs[k]? = some x) (hp : p x = true) (hall : ∀ i, i < k → pAt xs p i = false) : DP.Ok ⟨k, k + 1, xs⟩ xs p := by
 have hk : k < xs.length := (List.getElem?_eq_some_iff.1 hx).1
 refine ⟨by dsimp only; omega, by dsimp only; omega, rfl, ?_, rfl⟩
 dsimp only
 rw [List.take_add_one, hx, List.filter_append]
 have : List.filter (fun x => !p x) (List.take k xs) = List.take k xs := List.filter_eq_self.2 fun y hy => by
  obtain ⟨i, hi, rfl⟩ := List.getElem_of_mem hy
  have hi' : i < k ∧ i < xs.length := by rw [List.length_take] at hi; omega
  have := hall i hi'.1
  rw [pAt_eq (s := xs[i]) (List.getElem?_eq_getElem hi'.2)] at this
  simp [this]
 rw [this]; simp [hp]
theorem DP.at_ {z : DP} {xs : List Ps} {p : Ps → Bool} (h : z.Ok xs p) {x : Ps} (hx : z.zs[z.j]? = some x) : x ∈ xs := by
 have := congrArg (fun l : List Ps => l[0]?) h.dr
 simp only [List.getElem?_drop, Nat.add_zero] at this
 rw [hx] at this
 exact List.mem_of_getElem? this.symm
theorem DP.keep {z : DP} {xs : List Ps} {p : Ps → Bool} (h : z.Ok xs p) {x : Ps} (hx : z.zs[z.j]? = some x) (hj : z.j < xs.length) (hp : p x = false) : DP.Ok ⟨z.i + 1, z.j + 1, z.zs.set z.i x⟩ xs p := by
 have hx' : xs[z.j]? = some x := by
  have := congrArg (fun l : List Ps => l[0]?) h.dr
  simp only [List.getElem?_drop, Nat.add_zero] at this
  rw [← this]; exact hx
 have hl := h.len
 have hlt := h.lt
 refine ⟨by dsimp only; omega, by dsimp only; omega, by simpa using hl, ?_, ?_⟩
 ·
  dsimp only
  rw [List.take_add_one, List.take_set_of_le (Nat.le_refl _), h.tk, List.take_add_one, hx', List.filter_append, List.getElem?_set_self (by omega)]; simp [hp]
 ·
  dsimp only
  rw [List.drop_set_of_lt (by omega), ← List.drop_drop, h.dr, List.drop_drop]
theorem DP.fin {z : DP} {xs : List Ps} {p : Ps → Bool} (h : z.Ok xs p) (hj : z.j = xs.length) : z.zs.take z.i = xs.filter fun x => !p x := by
 rw [h.tk, hj, List.take_length]
end Go.Proofs.YthkliiifllhacaaGreat

namespace Go.Proofs.YthkliiifllhacaaGreat
open Go Go.RowKit

end Go.Proofs.YthkliiifllhacaaGreat

namespace Go.Proofs.YthkliiifllhacaaGreat
open Go Go.RowKit

section
variable {sheet players lucky : List Int}
end
end Go.Proofs.YthkliiifllhacaaGreat

namespace Go.Proofs.YthkliiifllhacaaGreat
open Go Go.RowKit

end Go.Proofs.YthkliiifllhacaaGreat

namespace Go.Proofs.YthkliiifllhacaaGreat
open Go Go.RowKit

theorem getD_some {l : List Int} {k : Nat} (h : k < l.length) : l[k]? = some (l.getD k 0) := by
 rw [List.getD_eq_getElem?_getD, List.getElem?_eq_getElem h]; rfl
end Go.Proofs.YthkliiifllhacaaGreat

namespace Go.Proofs.YthkliiifllhacaaGreat
open Go Go.RowKit

end Go.Proofs.YthkliiifllhacaaGreat

namespace Go.Proofs.YthkliiifllhacaaGreat
open Go Go.RowKit

section
variable {p : Pl}
end
end Go.Proofs.YthkliiifllhacaaGreat

namespace Go.Proofs.YthkliiifllhacaaGreat
open Go Go.RowKit

section
variable {p : Pl}
end
end Go.Proofs.YthkliiifllhacaaGreat

namespace Go.Proofs.YthkliiifllhacaaGreat
open Go Go.RowKit

end Go.Proofs.YthkliiifllhacaaGreat

namespace Go.Proofs.YthkliiifllhacaaGreat
open Go Go.RowKit

section
variable {p : Pl}
end
end Go.Proofs.YthkliiifllhacaaGreat

namespace Go.Proofs.YthkliiifllhacaaGreat
open Go Go.RowKit

def nationV (ns : List Int) (p : Int) : Int := bif decide (0 ≤ p) && decide (p < (ns.length : Int)) then ns.getD p.toNat 0 else 0
def rkP (ns lots list : List Int) : Pl := ⟨4, 2, list.map fun p => ⟨p, nationV ns p, false⟩, lots⟩
end Go.Proofs.YthkliiifllhacaaGreat

namespace Go.Proofs.YthkliiifllhacaaGreat
open Go Go.RowKit

def begTo (cf : Int) : Nat → List En
 | 0 => []
 | k + 1 => begTo cf k ++ if cf = -1 ∨ cf = (k : Int) then [(⟨(k : Int), [], (0, 0), (0, 0)⟩, (0, 0, 0))] else []
theorem begTo_two (cf : Int) : begTo cf 2 = begC cf := by
 show (([] : List En) ++ _) ++ _ = _
 unfold begC
 rw [List.nil_append]
 rfl
structure BgI (f : Fmt) (cf : Int) (k : Nat) (N : List Nd) (mn : Nat → Pr) (ns : List Nd) (es : Array MapEntry) (c : Nat) : Prop where
 ok : PoolOk f N mn 0
 cr : CrIs N ns es c
 eqC : toC mn ns = begTo cf k
 row : ∀ y ∈ ns, RowN N y [] ∧ y.s = ⟨y.s.first, [], (0, 0), (0, 0)⟩ ∧ (cf = -1 ∨ cf = y.s.first) ∧ 0 ≤ y.s.first ∧ y.s.first < (k : Int)
theorem BgI.skip {f : Fmt} {cf : Int} {k : Nat} {N : List Nd} {mn : Nat → Pr} {ns : List Nd} {es : Array MapEntry} {c : Nat} (h : BgI f cf k N mn ns es c) (hc : ¬ (cf = -1 ∨ cf = (k : Int))) : BgI f cf (k + 1) N mn ns es c :=
 ⟨h.ok, h.cr, by rw [begTo, if_neg hc, List.append_nil]; exact h.eqC, fun y hy => by have := h.row y hy; exact ⟨this.1, this.2.1, this.2.2.1, this.2.2.2.1, by omega⟩⟩
theorem BgI.get {f : Fmt} {cf : Int} {k : Nat} {N : List Nd} {mn : Nat → Pr} {ns : List Nd} {es : Array MapEntry} {c : Nat} (h : BgI f cf k N mn ns es c) : getN ns ⟨(k : Int), [], (0, 0), (0, 0)⟩ = none :=
 List.find?_eq_none.2 fun y hy => by
  rw [decide_eq_true_eq]
  intro e
  have := (h.row y hy).2.2.2.2
  rw [e] at this
  exact absurd this (by show ¬ (k : Int) < (k : Int); omega)
theorem BgI.add {f : Fmt} {cf : Int} {k : Nat} {N : List Nd} {mn : Nat → Pr} {ns : List Nd} {es es2 : Array MapEntry} {c c2 : Nat} (h : BgI f cf k N mn ns es c) (hk : k < 2) (hc : cf = -1 ∨ cf = (k : Int)) {b : Nat} (hne : ∀ z ∈ N, z.b ≠ b) (hm : MapIs es2 (crE (putNs ns ⟨b, ⟨(k : Int), [], (0, 0), (0, 0)⟩, none, 0⟩)) ∧ Stm es2 c2) :
  BgI f cf (k + 1) (⟨b, ⟨(k : Int), [], (0, 0), (0, 0)⟩, none, 0⟩ :: N) (upN mn b (0, 0)) (putNs ns ⟨b, ⟨(k : Int), [], (0, 0), (0, 0)⟩, none, 0⟩) es2 c2 := by
 have hup : ∀ z ∈ N, z ∈ (⟨b, ⟨(k : Int), [], (0, 0), (0, 0)⟩, none, 0⟩ :: N : List Nd) := fun z hz => List.mem_cons_of_mem _ hz
 have hok := h.ok.first (y := ⟨b, ⟨(k : Int), [], (0, 0), (0, 0)⟩, none, 0⟩) (Int.le_refl _) hne (by dsimp only; omega) rfl rfl
 have hg := h.get
 refine ⟨hok, (h.cr.up hup).put List.mem_cons_self hm, ?_, fun y hy => ?_⟩
 ·
  rw [putNs_none hg]
  show toC _ (ns ++ [_]) = _
  unfold toC
  rw [List.map_append, begTo, if_pos hc, ← h.eqC]
  congr 1
  ·
   exact toC_congr fun y hy => upN_other (hne y (h.cr.sub y hy))
  ·
   show [((⟨(k : Int), [], (0, 0), (0, 0)⟩ : Spot), ((upN mn b (0, 0) b).1, (upN mn b (0, 0) b).2, (0 : Int)))] = _
   rw [upN_same]
 ·
  rcases putNs_mem hy with h5 | rfl
  ·
   have := h.row y h5
   exact ⟨this.1.mono hup, this.2.1, this.2.2.1, this.2.2.2.1, by omega⟩
  ·
   exact ⟨.nil rfl, rfl, hc, by dsimp only; omega, by dsimp only; omega⟩
structure BGZ where
 (N : List Nd) (mn : Nat → Pr) (ns : List Nd) (es : Array MapEntry) (c k : Nat)
set_option maxRecDepth 100000 in
theorem T_reader_begin (f : Fmt) (hf : f.Ok) (cf : Int) (A : Option Addr) (n c : Nat) (mn : Nat → Pr) :
  Tr Tryz.prog 105 [.agg (cardC f cf A n c).toArray] [poolE 255 [] mn none] (fun q : PR => BgI f cf 2 q.N q.mn q.ns q.es q.c) (fun q => .map (some q.b)) (fun q => [poolE 255 q.N q.mn none, .obj q.b (.map q.es q.c)]) := by
 refine ⟨fun w0 w R hst => ?_⟩
 refine en Tryz.func105 Tryz.ntmps105 hst (h := fun F => ?_)
 refine sr ?_
 refine bxA (h := fun b0 => ?_)
 refine ww ?_
 refine nr ?_
 refine mkm (h := fun b1 => ?_)
 refine ww ?_
 refine nq ?_
 refine sq ?_
 refine sr ?_
 refine ww ?_
 refine nq ?_
 refine bk ?_
 refine lp (X := BGZ) (I := fun z => z.k ≤ 2 ∧ BgI f cf z.k z.N z.mn z.ns z.es z.c) (le := fun z => [(1, .pointer (some ⟨b0, 0, none⟩)), (3, .map (some b1)), (6, .int .i64 z.k)]) (Le := fun z => .obj b1 (.map z.es z.c) :: .blk b0 197 (cardC f cf A n c) :: poolE 255 z.N z.mn none :: R) (μ := fun z => 2 - z.k) ⟨[], mn, [], #[], 0, 0⟩ ⟨Nat.zero_le _, ⟨PoolOk.nil f mn 0, CrIs.nil [], rfl, fun y hy => (by cases hy)⟩⟩ sbz_ slz_ (fun z hz => ?_)
 obtain ⟨hzk, hzb⟩ := hz
 refine sr ?_
 refine ww ?_
 refine nq ?_
 refine sq ?_
 refine czz (fun h0 => ?_) fun h0 => ?_
 ·
  have hk2 : z.k < 2 := by simp only [decide_eq_true_eq] at h0; omega
  refine skp ?_
  refine q_seq ?_
  refine sq ?_
  refine bk ?_
  refine sr ?_
  iterate 2 refine ww ?_
  refine nr ?_
  iterate 5 refine ww ?_
  apply brOr 6 13 19 (by exact rfl)
  ·
   intro hb1
   iterate 5 refine uw ?_
   refine ww ?_
   exact mg (by repeat (first | exact trivial | refine ⟨rfl, ?_⟩ | refine ⟨by rw [hb1]; rfl, ?_⟩)) slz_
  ·
   intro hb1
   repeat (first | refine uz ?_ | refine kz ?_ | refine wz ?_)
   exact mg (by repeat (first | exact trivial | refine ⟨rfl, ?_⟩ | refine ⟨by rw [hb1]; rfl, ?_⟩)) slz_
  refine nq ?_
  refine czz (fun h2 => ?_) fun h2 => ?_
  ·
   have hcf : cf = -1 ∨ cf = ((z.k : Nat) : Int) := by
    have h' : (decide (cf = -1) || decide (cf = (z.k : Int))) = true := h2
    simpa using h'
   refine rg ?_
   iterate 4 refine ww ?_
   refine bxA (h := fun b2 => ?_)
   refine WL.pNew ⟨b2, ⟨((z.k : Nat) : Int), [], (0, 0), (0, 0)⟩, none, 0⟩ (0, 0) .here atz_ (fun hne => ?_)
   have hcp := hzb.ok.first (y := ⟨b2, ⟨((z.k : Nat) : Int), [], (0, 0), (0, 0)⟩, none, 0⟩) (Int.le_refl _) hne (by dsimp only; omega) rfl rfl
   refine clT (hc := T_put (⟨b2, ⟨((z.k : Nat) : Int), [], (0, 0), (0, 0)⟩, none, 0⟩ :: z.N) z.ns (upN z.mn b2 (0, 0)) ⟨b2, ⟨((z.k : Nat) : Int), [], (0, 0), (0, 0)⟩, none, 0⟩ b1 z.es z.c hzb.cr.m hzb.cr.s hcp.nd (fun y hy => (hcp.ok y hy).len hf) (fun y hy => List.mem_cons_of_mem _ (hzb.cr.sub y hy)) List.mem_cons_self) (h := fun q hq => ?_)
   rw [putM_none hzb.get]
   refine nl ?_
   refine q_blk_norm ?_
   refine q_seq ?_
   refine rg ?_
   iterate 2 refine ww ?_
   refine nl ?_
   first
    | (refine rn (x := z) ⟨⟨b2, ⟨((z.k : Nat) : Int), [], (0, 0), (0, 0)⟩, none, 0⟩ :: z.N, upN z.mn b2 (0, 0), putNs z.ns ⟨b2, ⟨((z.k : Nat) : Int), [], (0, 0), (0, 0)⟩, none, 0⟩, q.1, q.2, z.k + 1⟩ ⟨by dsimp only; omega, hzb.add hk2 hcf hne hq⟩ (by dsimp only; omega) sbz_ slz_)
    | (refine rn (x := z) ⟨z.N, z.mn, z.ns, z.es, z.c, z.k + 1⟩ ⟨by dsimp only; omega, hzb.skip hcf⟩ (by dsimp only; omega) sbz_ slz_)
  ·
   have hcf : ¬ (cf = -1 ∨ cf = ((z.k : Nat) : Int)) := by
    have h' : (decide (cf = -1) || decide (cf = (z.k : Int))) = false := h2
    simpa using h'
   refine skp ?_
   refine q_blk_norm ?_
   refine q_seq ?_
   refine rg ?_
   iterate 2 refine ww ?_
   refine nl ?_
   first
    | (refine rn (x := z) ⟨⟨b2, ⟨((z.k : Nat) : Int), [], (0, 0), (0, 0)⟩, none, 0⟩ :: z.N, upN z.mn b2 (0, 0), putNs z.ns ⟨b2, ⟨((z.k : Nat) : Int), [], (0, 0), (0, 0)⟩, none, 0⟩, q.1, q.2, z.k + 1⟩ ⟨by dsimp only; omega, hzb.add hk2 hcf hne hq⟩ (by dsimp only; omega) sbz_ slz_)
    | (refine rn (x := z) ⟨z.N, z.mn, z.ns, z.es, z.c, z.k + 1⟩ ⟨by dsimp only; omega, hzb.skip hcf⟩ (by dsimp only; omega) sbz_ slz_)
 ·
  have hk2 : z.k = 2 := by simp only [decide_eq_false_iff_not] at h0; omega
  refine et ?_
  iterate 2 refine q_then_exit ?_
  refine q_blk_hit ?_
  refine q_seq ?_
  refine sr ?_
  iterate 2 refine ww ?_
  refine nq ?_
  refine rtn ?_
  refine q_ret (hR := ?_)
  rw [hk2] at hzb
  exact fun w hS => ⟨⟨z.N, z.mn, z.ns, b1, z.es, z.c⟩, hzb, rfl, hS.sub slz_⟩
end Go.Proofs.YthkliiifllhacaaGreat

namespace Go.Proofs.YthkliiifllhacaaGreat
open Go Go.RowKit

section rules
variable {F : Fence} {P : Program} {ops : Array Oper} {Q : Exit → Act → World → Prop} {rest : List Oper} {n : Nat} {D : List Deferred} {l : Env} {w0 : World} {L M : List Ent}
theorem lenR {x : Operand} {b : Nat} {es : Array MapEntry} {c : Nat} {t k e : TypeId} (hT : MapTy P t k e := by infer_instance) (hx : ev l x = some (.map (some b)) := by exact rfl) (ha : At L (roM b es c) M := by repeat (first | exact At.here | apply At.there)) : Yd P n D l w0 L (.call { callee := .builtin .len, args := #[x], argTypes := #[t] }) (.int .i64 es.size) :=
 ⟨by simp, by simp, fun oo ho ac w hfr hst => by
  have hb : w.heap[b]? = some (.map es c) := hst _ ha.mem
  simp [execOp, ho, resolve, invoke, builtin, hfr.eval hx, Builtin.len_, run_underlying hT.und, getMap hb, goInt]⟩
end rules
theorem CrIs.size {N ns : List Nd} {es : Array MapEntry} {c : Nat} (h : CrIs N ns es c) : es.size = ns.length := by
 have := congrArg List.length (cr_kv h)
 simpa using this
theorem T_read (f : Fmt) (hf : f.Ok) (hc0 : chkF f = 0) (cf : Int) (A : Option Addr) (n c : Nat) (N ns : List Nd) (mn : Nat → Pr) (t : Nt) (ht : mkV t = true) (K : Int) (hK : K ≤ 500) (hP : PoolOk f N mn K) (b : Nat) (es : Array MapEntry) (cl : Nat) (hC : CrIs N ns es cl) :
  Tr Tryz.prog 106 [.agg (cardC f cf A n c).toArray, .map (some b), t.val] [poolE 255 N mn none, roM b es cl] (RdOk f N mn ns t K) (fun q => .map (some q.b)) (fun q => [poolE 255 q.N q.mn none, .obj q.b (.map q.es q.c), roM b es cl]) := by
 have hk := mk_kind ht
 by_cases h1 : t.kind = 1
 ·
  exact T_read_noted f hf cf A n c N ns mn t K hK hP b es cl hC h1
 by_cases h2 : t.kind = 2
 ·
  have h3 := hk.2.2.1 h2
  exact T_read_missed f hf cf A n c N ns mn t K hK hP b es cl hC h2 t.pair.2.toNat (by omega) (by omega)
 ·
  exact T_read_test f hf hc0 cf A n c N ns mn t K hK hP b es cl hC h1 h2
structure StI (f : Fmt) (cf : Int) (xs : List Nt) (j : Nat) (q : PR) : Prop where
 ok : PoolOk f q.N q.mn (mostS (xs.take j) + (j : Int))
 cr : CrIs q.N q.ns q.es q.c
 eqC : (toC q.mn q.ns).Perm (crowdC f cf (xs.take j))
 row : ∀ y ∈ q.ns, ∃ r, RowN q.N y r ∧ Row_ f cf xs j y.s y.s.first r
theorem StI.start {f : Fmt} {cf : Int} {xs : List Nt} {q : PR} (h : BgI f cf 2 q.N q.mn q.ns q.es q.c) : StI f cf xs 0 q := by
 refine ⟨h.ok, h.cr, ?_, fun y hy => ?_⟩
 ·
  rw [h.eqC, begTo_two]; exact .refl _
 ·
  obtain ⟨h1, h2, h3, h4, h5⟩ := h.row y hy
  refine ⟨[], h1, ?_⟩
  rw [h2]
  exact row_begin (by omega) h3
theorem StI.read {f : Fmt} {cf : Int} {xs : List Nt} {j : Nat} {q q2 : PR} {x : Nt} (h : StI f cf xs j q) (hx : xs[j]? = some x) (hr : RdOk f q.N q.mn q.ns x (mostS (xs.take j) + (j : Int)) q2) : StI f cf xs (j + 1) q2 := by
 refine ⟨?_, hr.cr, ?_, fun y hy => ?_⟩
 ·
  have := hr.ok
  rw [mostS_succ hx, show mostS (xs.take j) + mostN x + ((j + 1 : Nat) : Int) = mostS (xs.take j) + (j : Int) + mostN x + 1 by omega]
  exact this
 ·
  rw [crowd_succ f cf hx]
  exact hr.eqC.trans (after_perm f x h.eqC)
 ·
  obtain ⟨x0, hx0, r, p, h1, h2, h3, h4⟩ := hr.fr y hy
  obtain ⟨r0, h5, h6⟩ := h.row x0 hx0
  obtain rfl := h5.uniq h.ok.nd h1
  obtain ⟨r', h7, _, h8, h9⟩ := (hr.ok.ok y (hr.cr.sub y hy)).row
  obtain rfl := h7.uniq hr.ok.nd h2
  rw [h3] at h8 h9 ⊢
  exact ⟨_, h2, row_read h6 hx h8 h9 h4⟩
theorem StI.none {f : Fmt} {cf : Int} {xs : List Nt} {j : Nat} {q : PR} (h : StI f cf xs j q) : q.es.size = 0 ↔ crowdC f cf (xs.take j) = [] := by
 rw [h.cr.size, ← List.length_eq_zero_iff (l := crowdC f cf (xs.take j)), ← h.eqC.length_eq]
 unfold toC
 rw [List.length_map]
theorem bad_at {f : Fmt} {cf : Int} {xs : List Nt} {i : Nat} (hi : i < xs.length) (h0 : crowdC f cf (xs.take (i + 1)) = []) (h1 : ∀ j, j ≤ i → crowdC f cf (xs.take j) ≠ []) : badC f cf xs = i := by
 unfold badC
 rcases fstC_spec (fun i => (crowdC f cf (xs.take (i + 1))).isEmpty) xs.length with ⟨_, h3⟩ | ⟨k, hk, h2, h3, h4⟩
 ·
  have := h3 i hi
  rw [h0] at this; cases this
 ·
  rw [h2]
  congr 1
  by_cases e1 : k < i
  ·
   exact absurd (List.isEmpty_iff.1 h3) (h1 (k + 1) (by omega))
  ·
   by_cases e2 : i < k
   ·
    have := h4 i e2
    rw [h0] at this; cases this
   ·
    omega
structure AZ where
 (q : PR) (k : Nat)
def AllOk (f : Fmt) (cf : Int) (xs : List Nt) (o : Option PR) : Prop := match o with
 | none => chkC f cf xs ≠ 0 ∨ 0 ≤ badC f cf xs
 | some q => chkC f cf xs = 0 ∧ badC f cf xs = -1 ∧ StI f cf xs xs.length q
def allB (f : Fmt) (cf : Int) (xs : List Nt) : Int := bif decide (chkC f cf xs = 0) then badC f cf xs else 0
def allV (o : Option PR) : Value := match o with
 | none => .map none
 | some q => .map (some q.b)
def allE (T : TypeId) (o : Option PR) : List Ent := match o with
 | none => []
 | some q => [poolE T q.N q.mn none, roM q.b q.es q.c]
theorem chk_facts {f : Fmt} {cf : Int} {xs : List Nt} (h : chkC f cf xs = 0) : chkF f = 0 ∧ f.Ok ∧ (-1 ≤ cf ∧ cf ≤ 1) ∧ xs.length ≤ 30 ∧ (∀ x ∈ xs, mkV x = true) ∧ mostS xs ≤ 600 := by
 unfold chkC at h
 cases hh : headB f cf xs.length
 ·
  rw [hh, cond_false] at h
  cases ha : xs.all mkV
  ·
   rw [ha] at h; cases h
  ·
   rw [ha] at h
   have h2 : decide (600 < mostS xs) = false := by
    cases hm : decide (600 < mostS xs)
    ·
     rfl
    ·
     rw [hm] at h; cases h
   unfold headB at hh
   simp only [Bool.or_eq_false_iff, decide_eq_false_iff_not] at hh
   have h3 := chkF_ok hh.1.1
   have h4 : chkF f = 0 := by simpa using hh.1.1
   exact ⟨h4, h3, wi_not.1 hh.1.2, by have := hh.2; omega, List.all_eq_true.1 ha, by have := of_decide_eq_false h2; omega⟩
 ·
  rw [hh] at h; cases h
theorem mostS_le {xs : List Nt} (h : ∀ x ∈ xs, mkV x = true) (j : Nat) : 0 ≤ mostS (xs.take j) ∧ mostS (xs.take j) ≤ mostS xs := by
 have nn : ∀ l : List Nt, (∀ x ∈ l, mkV x = true) → 0 ≤ mostS l := fun l => by
  induction l with
  | nil => exact fun _ => Int.le_refl _
  | cons x l ih =>
   intro h
   have h1 := ih fun y hy => h y (by simp [hy])
   have h2 := most_bd (h x (by simp))
   show 0 ≤ mostN x + mostS l
   omega
 have e : mostS xs = mostS (xs.take j) + mostS (xs.drop j) := by
  unfold mostS
  rw [← List.sum_append, ← List.map_append, List.take_append_drop]
 have h1 := nn (xs.take j) fun x hx => h x (List.mem_of_mem_take hx)
 have h2 := nn (xs.drop j) fun x hx => h x (List.mem_of_mem_drop hx)
 omega
theorem C_card_all (f : Fmt) (cf : Int) (xs : List Nt) (A : Option Addr) (n c : Nat) (w : World) (h : Rd w A 4 n (encN xs)) (hn : n ≤ 9223372036854775807) (hsm : chkC f cf xs = 0 → mostS xs ≤ 400) :
  CR Tryz.prog 62 [.agg (cardC f cf A n c).toArray] w (AllOk f cf xs) (fun o => .tuple #[allV o, .int .i64 (allB f cf xs), .int .i64 (chkC f cf xs)]) (allE 255) := by
 have hlen : xs.length = n := by have := h.len; rwa [encN_len] at this
 refine ⟨en Tryz.func62 Tryz.ntmps62 ((St.init w).share (e := .ro A 4 n (encN xs)) h rfl rfl rfl) (h := fun F => ?_)⟩
 refine sr ?_
 refine bxA (h := fun b0 => ?_)
 refine ww ?_
 refine WL.cut (by repeat (first | exact Cut.nil | apply Cut.hit | apply Cut.miss (by exact rfl))) ?_
 iterate 2 refine ww ?_
 refine nq ?_
 refine sq ?_
 refine sr ?_
 refine ww ?_
 refine cl0 (hc := fun w hS => C_card_Check f cf xs A n c w (hS.get rdz_) hn) (h := ?_)
 refine ww ?_
 refine nr ?_
 iterate 2 refine ww ?_
 refine nq ?_
 refine czz (fun h0 => ?_) fun h0 => ?_
 ·
  have hcn : chkC f cf xs ≠ 0 := by simpa using h0
  have hB : allB f cf xs = 0 := by rw [allB, decide_eq_false hcn]; rfl
  refine sr ?_
  iterate 2 refine ww ?_
  refine WL.cut (by repeat (first | exact Cut.nil | apply Cut.hit | apply Cut.miss (by exact rfl))) ?_
  iterate 2 refine ww ?_
  refine nq ?_
  refine rtn ?_
  refine q_then_ret ?_
  refine q_ret (hR := ?_)
  rw [hB]
  exact fun w hS => ⟨none, .inl hcn, rfl, hS.sub slz_⟩
 ·
  have hcn : chkC f cf xs = 0 := by simpa using h0
  obtain ⟨hc0, hf, hcf, hl30, hmk, -⟩ := chk_facts hcn
  have hms := hsm hcn
  have hB : allB f cf xs = badC f cf xs := by rw [allB, decide_eq_true hcn]; rfl
  rw [hcn]
  refine skp ?_
  refine q_seq ?_
  refine sr ?_
  iterate 2 refine ww ?_
  refine al (h := fun b1 => ?_)
  first | refine stA (h := ?_) | refine stEA (h := ?_)
  refine nq ?_
  refine sq ?_
  refine WC.pool0 255 (fun _ => (0, 0)) ?_
  refine rg ?_
  refine ww ?_
  refine clT (hc := T_reader_begin f hf cf A n c (fun _ => (0, 0))) (h := fun q1 hq1 => ?_)
  refine ww ?_
  refine WL.cut (by repeat (first | exact Cut.nil | apply Cut.hit | apply Cut.miss (by exact rfl))) ?_
  refine WL.toRoM (b := q1.b) (es := q1.es) (c := q1.c) atz_ ?_
  refine nq ?_
  refine sq ?_
  refine sr ?_
  iterate 4 refine ww ?_
  refine nq ?_
  refine bk ?_
  refine lp (X := AZ) (I := fun z => z.k ≤ n ∧ StI f cf xs z.k z.q ∧ ∀ j, j ≤ z.k → crowdC f cf (xs.take j) ≠ []) (le := fun z => [(2, .map (some z.q.b)), (6, .pointer (some ⟨b1, 0, none⟩)), (19, .slice A n c), (20, .int .i64 n), (21, .int .i64 z.k)]) (Le := fun z => [roM z.q.b z.q.es z.q.c, poolE 255 z.q.N z.q.mn none, .blk b1 197 (cardC f cf A n c), .ro A 4 n (encN xs)]) (μ := fun z => n - z.k) ⟨q1, 0⟩ ⟨Nat.zero_le _, StI.start hq1, fun j hj => by rw [show j = 0 from Nat.le_zero.1 hj]; exact beg_ne hcf⟩ sbz_ slz_ (fun z hz => ?_)
  obtain ⟨hzk, hzs, hzn⟩ := hz
  refine sr ?_
  refine ww ?_
  refine nq ?_
  refine sq ?_
  refine czz (fun h1 => ?_) fun h1 => ?_
  ·
   have hkn : z.k < n := by simp only [decide_eq_true_eq] at h1; omega
   obtain ⟨x, hx⟩ : ∃ x, xs[z.k]? = some x := ⟨_, List.getElem?_eq_getElem (by omega)⟩
   have hxe := encN_at hx
   have hmx := hmk x (List.mem_of_getElem? hx)
   have hml := mostS_le hmk z.k
   refine skp ?_
   refine q_seq ?_
   refine sq ?_
   refine bk ?_
   refine sr ?_
   refine ww ?_
   refine wy (ix (hb := by omega)) ?_
   refine wy (ldEA (hk := hxe)) ?_
   refine al (h := fun b2 => ?_)
   refine ww ?_
   first | refine stA (h := ?_) | refine stEA (h := ?_)
   refine nr ?_
   iterate 3 refine ww ?_
   refine clT (hc := T_read f hf hc0 cf A n c z.q.N z.q.ns z.q.mn x hmx _ (by omega) hzs.ok z.q.b z.q.es z.q.c hzs.cr) (h := fun q2 hq2 => ?_)
   have hs2 := hzs.read hx hq2
   refine ww ?_
   refine WL.cut (by repeat (first | exact Cut.nil | apply Cut.hit | apply Cut.miss (by exact rfl))) ?_
   refine WL.toRoM (b := q2.b) (es := q2.es) (c := q2.c) atz_ ?_
   refine nr ?_
   refine ww ?_
   refine wy (lenR (b := q2.b) (es := q2.es) (c := q2.c)) ?_
   refine ww ?_
   refine nq ?_
   refine czz (fun h2 => ?_) fun h2 => ?_
   ·
    have hem : q2.es.size = 0 := by have h9 := of_decide_eq_true h2; omega
    have hE : badC f cf xs = (z.k : Int) := bad_at (by omega) (hs2.none.1 hem) hzn
    refine sr ?_
    iterate 2 refine ww ?_
    refine WL.cut (by repeat (first | exact Cut.nil | apply Cut.hit | apply Cut.miss (by exact rfl))) ?_
    iterate 2 refine ww ?_
    refine nq ?_
    refine rtn ?_
    refine q_blk_ret ?_
    iterate 2 refine q_then_ret ?_
    refine q_blk_ret ?_
    refine q_then_ret ?_
    refine q_ret (hR := ?_)
    rw [hB, hE]
    first
     | exact fun w hS => ⟨none, .inr (by rw [hE]; omega), rfl, hS.sub slz_⟩
     | exact fun w hS => ⟨some z.q, ⟨hcn, hE, hzs⟩, rfl, hS.sub (L' := [poolE 255 z.q.N z.q.mn none, roM z.q.b z.q.es z.q.c]) slz_⟩
   ·
    have hem : q2.es.size ≠ 0 := by have h9 := of_decide_eq_false h2; omega
    have hne2 : crowdC f cf (xs.take (z.k + 1)) ≠ [] := fun e => hem (hs2.none.2 e)
    refine skp ?_
    refine q_blk_norm ?_
    refine q_seq ?_
    refine rg ?_
    iterate 2 refine ww ?_
    refine nl ?_
    refine rn (x := z) ⟨q2, z.k + 1⟩ ⟨by dsimp only; omega, hs2, fun j hj => by
      by_cases e : j ≤ z.k
      ·
       exact hzn j e
      ·
       rw [show j = z.k + 1 by dsimp only at hj; omega]; exact hne2⟩ (by dsimp only; omega) sbz_ slz_
  ·
   have hkn : z.k = xs.length := by simp only [decide_eq_false_iff_not] at h1; omega
   have hE : badC f cf xs = -1 := by
    have h9 := hzn z.k (Nat.le_refl _)
    rw [hkn, List.take_length] at h9
    exact (bad_none hcf).2 h9
   rw [hkn] at hzs
   refine et ?_
   iterate 2 refine q_then_exit ?_
   refine q_blk_hit ?_
   refine q_seq ?_
   refine sr ?_
   iterate 2 refine ww ?_
   refine WL.cut (by repeat (first | exact Cut.nil | apply Cut.hit | apply Cut.miss (by exact rfl))) ?_
   iterate 2 refine ww ?_
   refine nq ?_
   refine rtn ?_
   refine q_ret (hR := ?_)
   rw [hB, hE]
   first
    | exact fun w hS => ⟨none, .inr (by rw [hE]; omega), rfl, hS.sub slz_⟩
    | exact fun w hS => ⟨some z.q, ⟨hcn, hE, hzs⟩, rfl, hS.sub (L' := [poolE 255 z.q.N z.q.mn none, roM z.q.b z.q.es z.q.c]) slz_⟩
end Go.Proofs.YthkliiifllhacaaGreat

namespace Go.Proofs.YthkliiifllhacaaGreat
open Go Go.RowKit

def posE (f : Fmt) (cf : Int) (xs : List Nt) : Int := bif decide (chkC f cf xs = 0) then (bif decide (0 ≤ badC f cf xs) then 3 else 0) else chkC f cf xs
theorem C_card_First (f : Fmt) (cf : Int) (xs : List Nt) (A : Option Addr) (n c : Nat) (w : World) (h : Rd w A 4 n (encN xs)) (hn : n ≤ 9223372036854775807) (hsm : chkC f cf xs = 0 → mostS xs ≤ 400) :
  C0 Tryz.prog 25 [.agg (cardC f cf A n c).toArray] w (.tuple #[.int .i64 (allB f cf xs), .int .i64 (chkC f cf xs)]) := by
 refine ⟨en Tryz.func25 Tryz.ntmps25 ((St.init w).share (e := .ro A 4 n (encN xs)) h rfl rfl rfl) (h := fun F => ?_)⟩
 refine sr ?_
 refine bxA (h := fun b0 => ?_)
 iterate 2 refine ww ?_
 refine nr ?_
 refine ww ?_
 refine cl (hfresh := fun o => by cases o <;> rfl) (hc := fun w hS => C_card_all f cf xs A n c w (hS.get rdz_) hn hsm) (h := fun o ho => ?_)
 iterate 7 refine ww ?_
 refine nr ?_
 iterate 4 refine ww ?_
 refine nq ?_
 refine rtn ?_
 refine q_ret (hR := ?_)
 exact fun w hS => ⟨rfl, hS.sub .nil⟩
end Go.Proofs.YthkliiifllhacaaGreat

namespace Go.Proofs.YthkliiifllhacaaGreat
open Go Go.RowKit

theorem StI.keys {f : Fmt} {cf : Int} {xs : List Nt} {q : PR} (h : StI f cf xs xs.length q) {y : Nd} (hy : y ∈ q.ns) : y.s ∈ keyC (crowdC f cf xs) := by
 have h1 := h.eqC
 rw [List.take_length] at h1
 have : y.s ∈ keyC (toC q.mn q.ns) := by rw [toC_keys]; exact List.mem_map.2 ⟨y, hy, rfl⟩
 exact (h1.map _).subset this
end Go.Proofs.YthkliiifllhacaaGreat

namespace Go.Proofs.YthkliiifllhacaaGreat
open Go Go.RowKit

end Go.Proofs.YthkliiifllhacaaGreat

namespace Go.Proofs.YthkliiifllhacaaGreat
open Go Go.RowKit

def SmP (p : Pr) : Prop := (0 ≤ p.1 ∧ p.1 ≤ 100000) ∧ 0 ≤ p.2 ∧ p.2 ≤ 100000
theorem drop_at {α : Type} {xs : List α} {k : Nat} {x : α} (h : xs[k]? = some x) : xs.drop k = x :: xs.drop (k + 1) := by
 have hk := (List.getElem?_eq_some_iff.1 h).1
 rw [List.drop_eq_getElem_cons hk]
 congr 1
 rw [List.getElem?_eq_getElem hk] at h
 exact Option.some.inj h
structure BrdSm (b : Brd) : Prop where
 st : ∀ p ∈ b.st, SmP p
 g : SmP b.g
 p : SmP b.p
 n : b.st.length ≤ 100000
end Go.Proofs.YthkliiifllhacaaGreat

namespace Go.Proofs.YthkliiifllhacaaGreat
open Go Go.RowKit

structure BA where
 (b : Brd) (A : Option Addr) (c : Nat)
abbrev BA.cells (x : BA) : List Value := x.b.cells x.A x.b.st.length x.c
abbrev BA.val (x : BA) : Value := x.b.val x.A x.b.st.length x.c
def kpX : BA → List BA → List BA
 | _, [] => []
 | p, x :: l => if x.b = p.b then kpX x l else x :: kpX x l
def cptX : List BA → List BA
 | [] => []
 | x :: l => x :: kpX x l
def PfX (xs : List BA) (k : Nat) : Prop := ∃ p, xs[k - 1]? = some p ∧ cptX xs = xs.take k ++ kpX p (xs.drop k)
structure CP2 where
 (k k2 : Nat) (zs : List BA)
structure CP2.Ok (xs : List BA) (k0 : Nat) (z : CP2) : Prop where
 lt : z.k + 1 ≤ k0 + z.k2
 k2 : 1 ≤ z.k2
 le : k0 + z.k2 ≤ xs.length
 len : z.zs.length = xs.length
 dr : ∀ i, k0 + z.k2 ≤ i + 1 → z.zs[i]? = xs[i]?
 tk : ∃ p, xs[k0 + z.k2 - 1]? = some p ∧ cptX xs = z.zs.take z.k ++ kpX p (xs.drop (k0 + z.k2))
theorem CP2.start {xs : List BA} {k0 : Nat} {x p : BA} (hk : 1 ≤ k0) (h : PfX xs k0) (hx : xs[k0]? = some x) (hp : xs[k0 - 1]? = some p) (he : x.b = p.b) : CP2.Ok xs k0 ⟨k0, 1, xs⟩ := by
 have hlt := (List.getElem?_eq_some_iff.1 hx).1
 obtain ⟨p', h1, h2⟩ := h
 rw [hp] at h1
 cases h1
 refine ⟨by dsimp only; omega, Nat.le_refl _, by dsimp only; omega, rfl, fun i _ => rfl, x, by dsimp only; rw [Nat.add_sub_cancel]; exact hx, ?_⟩
 rw [h2, drop_at hx, kpX, if_pos he]
theorem CP2.skip {xs : List BA} {k0 : Nat} {z : CP2} (h : z.Ok xs k0) {x p : BA} (hx : xs[k0 + z.k2]? = some x) (hp : xs[k0 + z.k2 - 1]? = some p) (he : x.b = p.b) : CP2.Ok xs k0 ⟨z.k, z.k2 + 1, z.zs⟩ := by
 have hlt := (List.getElem?_eq_some_iff.1 hx).1
 have h0 := h.lt; have h1 := h.k2; have h2 := h.le
 obtain ⟨p', h3, h4⟩ := h.tk
 rw [hp] at h3
 cases h3
 refine ⟨by dsimp only; omega, by dsimp only; omega, by dsimp only; omega, h.len, fun i hi => h.dr i (by dsimp only at hi; omega), x, by dsimp only; rw [show k0 + (z.k2 + 1) - 1 = k0 + z.k2 by omega]; exact hx, ?_⟩
 rw [h4, drop_at hx, kpX, if_pos he]; rfl
theorem CP2.keep {xs : List BA} {k0 : Nat} {z : CP2} (h : z.Ok xs k0) {x p : BA} (hx : xs[k0 + z.k2]? = some x) (hp : xs[k0 + z.k2 - 1]? = some p) (he : ¬ x.b = p.b) : CP2.Ok xs k0 ⟨z.k + 1, z.k2 + 1, z.zs.set z.k x⟩ := by
 have hlt := (List.getElem?_eq_some_iff.1 hx).1
 have h0 := h.lt; have h1 := h.k2; have h2 := h.le; have hl := h.len
 obtain ⟨p', h3, h4⟩ := h.tk
 rw [hp] at h3
 cases h3
 refine ⟨by dsimp only; omega, by dsimp only; omega, by dsimp only; omega, by simp [hl], fun i hi => ?_, x, by dsimp only; rw [show k0 + (z.k2 + 1) - 1 = k0 + z.k2 by omega]; exact hx, ?_⟩
 ·
  dsimp only at hi ⊢
  rw [List.getElem?_set_ne (by omega)]
  exact h.dr i (by omega)
 ·
  dsimp only
  rw [h4, drop_at hx, kpX, if_neg he, List.take_add_one, List.take_set, List.getElem?_set_self (by omega)]
  rw [List.set_eq_of_length_le (by rw [List.length_take]; omega)]
  simp [Nat.add_assoc]
theorem CP2.fin {xs : List BA} {k0 : Nat} {z : CP2} (h : z.Ok xs k0) (he : k0 + z.k2 = xs.length) : cptX xs = z.zs.take z.k := by
 obtain ⟨p, _, h2⟩ := h.tk
 rw [h2, he, List.drop_length, kpX, List.append_nil]
end Go.Proofs.YthkliiifllhacaaGreat

namespace Go.Proofs.YthkliiifllhacaaGreat
open Go Go.RowKit

end Go.Proofs.YthkliiifllhacaaGreat

namespace Go.Proofs.YthkliiifllhacaaGreat
open Go Go.RowKit

structure BDR where
 (zs : List BA) (A : Option Addr) (c : Nat)
def BdOk (f : Fmt) (cf : Int) (xs : List Nt) (o : Option BDR) : Prop := match o with
 | none => posE f cf xs ≠ 0
 | some s => posE f cf xs = 0 ∧ s.zs.map (·.b) = boardsC (keyC (crowdC f cf xs)) ∧ (∀ x ∈ s.zs, BrdSm x.b) ∧ s.zs.length ≤ 4194304
section rules
variable {F : Fence} {P : Program} {ops : Array Oper} {Q : Exit → Act → World → Prop} {rest : List Oper} {n : Nat} {D : List Deferred} {l : Env} {w0 : World} {L M : List Ent}
end rules
end Go.Proofs.YthkliiifllhacaaGreat

namespace Go.Proofs.YthkliiifllhacaaGreat
open Go Go.RowKit Go.Sort

section
variable {k : Nat} {enc : Nat → List Value}
end
end Go.Proofs.YthkliiifllhacaaGreat

namespace Go.Proofs.YthkliiifllhacaaGreat
open Go Go.Shelf
end Go.Proofs.YthkliiifllhacaaGreat

namespace Go.Proofs.YthkliiifllhacaaGreat
open Go Go.RowKit Go.Sort

end Go.Proofs.YthkliiifllhacaaGreat

namespace Go.Proofs.YthkliiifllhacaaGreat
open Go Go.RowKit

end Go.Proofs.YthkliiifllhacaaGreat

namespace Go.Proofs.YthkliiifllhacaaGreat
open Go Go.RowKit

def misN (x : Nt) : Int := bif decide (x.kind = 2) then x.pair.2 else 0
def misS (xs : List Nt) : Int := (xs.map misN).sum
theorem put_len (l : List En) (e : En) : (putC l e).length ≤ l.length + 1 := by
 induction l with
 | nil => exact Nat.le_refl _
 | cons x l ih =>
  rw [putC]
  by_cases h : x.1 = e.1
  ·
   rw [if_pos h]; simp
  ·
   rw [if_neg h]; simp only [List.length_cons]; omega
theorem norm_len (l : List En) : (normC l).length ≤ l.length := by
 have : ∀ (l acc : List En), (l.foldl putC acc).length ≤ acc.length + l.length := fun l => by
  induction l with
  | nil => intro acc; exact Nat.le_refl _
  | cons e l ih =>
   intro acc
   have h1 := ih (putC acc e)
   have h2 := put_len acc e
   rw [List.foldl_cons, List.length_cons]; omega
 have := this l []
 rw [normC]; simpa using this
theorem go_len (f : Fmt) (side : Int) (e : En) (p : Int) : (goE f side e p).length ≤ 1 := by
 unfold goE
 by_cases h : side = -1 ∨ side = p
 ·
  rw [if_pos h]; cases nxtS f e.1 p <;> simp
 ·
  rw [if_neg h]; simp
theorem step_len (f : Fmt) (l : List En) (side : Int) : (stepC f l side).length ≤ 2 * l.length := by
 refine Nat.le_trans (norm_len _) ?_
 unfold stepI
 induction l with
 | nil => simp
 | cons e l ih =>
  have h0 := go_len f side e 0
  have h1 := go_len f side e 1
  rw [List.flatMap_cons, List.length_append, List.length_append, List.length_cons]; omega
theorem iter_len (f : Fmt) (l : List En) : ∀ k, (iterC f l k).length ≤ 2 ^ k * l.length
 | 0 => by simp [iterC]
 | k + 1 => by
  have h1 := step_len f (iterC f l k) (-1)
  have h2 := iter_len f l k
  show (stepC f (iterC f l k) (-1)).length ≤ _
  rw [Nat.pow_succ, Nat.mul_comm (2 ^ k) 2, Nat.mul_assoc]
  omega
theorem missI_len (f : Fmt) (l : List En) (a : Int) : ∀ k, (missI f l a k).length + l.length ≤ 2 ^ k * l.length
 | 0 => by simp [missI]
 | k + 1 => by
  have h1 := missI_len f l a k
  have h2 := iter_len f l k
  have h3 : (if a ≤ (k : Int) then iterC f l k else []).length ≤ (iterC f l k).length := by
   by_cases h : a ≤ (k : Int)
   ·
    rw [if_pos h]; exact Nat.le_refl _
   ·
    rw [if_neg h]; exact Nat.zero_le _
  rw [missI, List.length_append, Nat.pow_succ, Nat.mul_comm (2 ^ k) 2, Nat.mul_assoc]
  omega
def expN (x : Nt) : Nat := 1 + (misN x).toNat
theorem after_len (f : Fmt) (l : List En) (x : Nt) : (afterC f l x).length ≤ 2 ^ expN x * l.length := by
 unfold afterC
 by_cases h1 : x.kind = 1
 ·
  rw [if_pos h1]
  have := step_len f l x.side
  have e : expN x = 1 := by unfold expN misN; rw [decide_eq_false (by omega)]; rfl
  rw [e]; omega
 ·
  rw [if_neg h1]
  by_cases h2 : x.kind = 2
  ·
   rw [if_pos h2]
   have e : expN x = x.pair.2.toNat + 1 := by unfold expN misN; rw [decide_eq_true h2]; show 1 + x.pair.2.toNat = _; omega
   have h3 := missI_len f l x.pair.1 (x.pair.2.toNat + 1)
   have h4 := norm_len (missI f l x.pair.1 (x.pair.2.toNat + 1))
   rw [e]
   show (normC _).length ≤ _
   omega
  ·
   rw [if_neg h2]
   have h3 : (testC f x l).length ≤ l.length := List.length_filter_le ..
   have h4 : 1 ≤ 2 ^ expN x := Nat.one_le_two_pow
   exact Nat.le_trans h3 (Nat.le_mul_of_pos_left _ h4)
def expS (xs : List Nt) : Nat := (xs.map expN).sum
theorem crowd_len (f : Fmt) (cf : Int) (xs : List Nt) : (crowdC f cf xs).length ≤ 2 ^ expS xs * 2 := by
 have key : ∀ (xs : List Nt) (l : List En), (xs.foldl (afterC f) l).length ≤ 2 ^ expS xs * l.length := fun xs => by
  induction xs with
  | nil => intro l; simp [expS]
  | cons x xs ih =>
   intro l
   rw [List.foldl_cons]
   refine Nat.le_trans (ih _) ?_
   have h1 := after_len f l x
   have : expS (x :: xs) = expN x + expS xs := by unfold expS; rw [List.map_cons, List.sum_cons]
   rw [this, Nat.pow_add, Nat.mul_comm (2 ^ expN x), Nat.mul_assoc]
   exact Nat.mul_le_mul_left _ h1
 refine Nat.le_trans (key xs (begC cf)) (Nat.mul_le_mul_left _ ?_)
 unfold begC
 rw [List.length_append]
 have : ∀ (p : Prop) [Decidable p] (e : En), (if p then [e] else []).length ≤ 1 := fun p _ e => by
  by_cases h : p
  ·
   rw [if_pos h]; exact Nat.le_refl _
  ·
   rw [if_neg h]; exact Nat.zero_le _
 have h1 := this (cf = -1 ∨ cf = 0) (⟨0, [], (0, 0), (0, 0)⟩, (0, 0, 0))
 have h2 := this (cf = -1 ∨ cf = 1) (⟨1, [], (0, 0), (0, 0)⟩, (0, 0, 0))
 omega
theorem exp_mis {xs : List Nt} (h : ∀ x ∈ xs, mkV x = true) : (expS xs : Int) = xs.length + misS xs ∧ mostS xs ≤ xs.length + misS xs ∧ 0 ≤ misS xs := by
 induction xs with
 | nil => exact ⟨rfl, Int.le_refl _, Int.le_refl _⟩
 | cons x xs ih =>
  obtain ⟨h1, h2, h3⟩ := ih fun y hy => h y (by simp [hy])
  have hk := mk_kind (h x (by simp))
  have h4 : 0 ≤ misN x ∧ mostN x ≤ 1 + misN x := by
   unfold misN mostN
   by_cases e1 : x.kind = 1
   ·
    rw [decide_eq_false (by omega), if_pos e1]; exact ⟨Int.le_refl _, by show (1 : Int) ≤ 1 + 0; omega⟩
   ·
    rw [if_neg e1]
    by_cases e2 : x.kind = 2
    ·
     have := hk.2.2.1 e2
     rw [decide_eq_true e2, if_pos e2]
     show 0 ≤ x.pair.2 ∧ x.pair.2 ≤ 1 + x.pair.2
     omega
    ·
     rw [decide_eq_false e2, if_neg e2]; exact ⟨Int.le_refl _, by show (0 : Int) ≤ 1 + 0; omega⟩
  have e1 : expS (x :: xs) = expN x + expS xs := by unfold expS; rw [List.map_cons, List.sum_cons]
  have e2 : misS (x :: xs) = misN x + misS xs := by unfold misS; rw [List.map_cons, List.sum_cons]
  have e3 : mostS (x :: xs) = mostN x + mostS xs := by unfold mostS; rw [List.map_cons, List.sum_cons]
  rw [e1, e2, e3, List.length_cons]
  unfold expN
  omega
structure Rdy (f : Fmt) (cf : Int) (xs : List Nt) : Prop where
 c : chkC f cf xs = 0
 n : xs.length ≤ 12
 m : mostS xs ≤ 20
 b : (crowdC f cf xs).length ≤ 4194304
 mks : ∀ x ∈ xs, mkV x = true
 ok : f.Ok
 cf : -1 ≤ cf ∧ cf ≤ 1
 mis : misS xs ≤ 8
theorem rdy_of {f : Fmt} {cf : Int} {xs : List Nt} (h1 : chkC f cf xs = 0) (hn : xs.length ≤ 12) (hm : misS xs ≤ 8) : Rdy f cf xs := by
 obtain ⟨h2, h3, h4, h5, h6, h7⟩ := chk_facts h1
 obtain ⟨e1, e2, e3⟩ := exp_mis h6
 have hl := crowd_len f cf xs
 have he : expS xs ≤ 20 := by omega
 have hp : 2 ^ expS xs ≤ 2 ^ 20 := Nat.pow_le_pow_right (by omega) he
 exact ⟨h1, hn, by omega, by omega, h6, h3, h4, hm⟩
end Go.Proofs.YthkliiifllhacaaGreat

namespace Go.Proofs.YthkliiifllhacaaGreat
open Go Go.RowKit

def exX : List Nt := [⟨1, 0, (0, 0)⟩, ⟨2, 0, (2, 4)⟩, ⟨3, 0, (3, 1)⟩, ⟨2, 0, (1, 1)⟩, ⟨4, 0, (1, 0)⟩]
theorem C_law3_Example (w : World) : CR Tryz.prog 32 [] w (fun _ : Nat => True) (fun b => .agg (cardC exF 0 (some ⟨b, 0, none⟩) 5 5).toArray) (fun b => [.own (some ⟨b, 0, none⟩) 5 75 4 5 (encN exX)]) := by
 refine ⟨en Tryz.func32 Tryz.ntmps32 (St.init w) (h := fun F => ?_)⟩
 refine sr ?_
 refine al (h := fun b0 => ?_)
 refine nr ?_
 refine cl (hc := fun w hS => C_law1_Example w) (h := fun x0 _ => ?_)
 iterate 3 refine ww ?_
 refine al (h := fun b1 => ?_)
 first | refine stA (h := ?_) | refine stEA (h := ?_)
 refine ww ?_
 refine nr ?_
 iterate 10 refine ww ?_
 refine bs (h := fun b2 => ?_)
 refine ww ?_
 first | refine stA (h := ?_) | refine stEA (h := ?_)
 refine nq ?_
 refine rtn ?_
 refine q_ret (hR := ?_)
 exact fun w hS => ⟨_, trivial, rfl, hS.sub slz_⟩
theorem ex_chk : chkC exF 0 exX = 0 := by kernel_rfl
theorem ex_bad : badC exF 0 exX = -1 := by kernel_rfl
theorem ex_most : mostS exX = 6 := by kernel_rfl
end Go.Proofs.YthkliiifllhacaaGreat

namespace Go.Proofs.YthkliiifllhacaaGreat
open Go Go.RowKit

theorem ex_all : allB exF 0 exX = -1 := by rw [allB, ex_chk, ex_bad]; rfl
end Go.Proofs.YthkliiifllhacaaGreat

namespace Go.Proofs.YthkliiifllhacaaGreat
open Go Go.RowKit

theorem chk_of {f : Fmt} {cf : Int} {xs : List Nt} (h1 : chkF f = 0) (h2 : -1 ≤ cf ∧ cf ≤ 1) (h3 : xs.length ≤ 30) (h4 : ∀ x ∈ xs, mkV x = true) (h5 : mostS xs ≤ 600) : chkC f cf xs = 0 := by
 have e1 : headB f cf xs.length = false := by
  unfold headB
  rw [decide_eq_true h1, show wi cf (-1) 1 = true from wi_iff.2 h2, decide_eq_false (by omega)]; rfl
 rw [chkC, e1, List.all_eq_true.2 h4, decide_eq_false (by omega)]; rfl
theorem misN_nn {x : Nt} (h : mkV x = true) : 0 ≤ misN x ∧ 0 ≤ mostN x := by
 have h1 := (exp_mis (xs := [x]) (by simpa using h)).2.2
 have h2 := most_bd h
 exact ⟨by simpa [misS] using h1, by omega⟩
theorem sub_sums {ys xs : List Nt} (hs : ys.Sublist xs) (h : ∀ x ∈ xs, mkV x = true) : misS ys ≤ misS xs ∧ mostS ys ≤ mostS xs := by
 induction hs with
 | slnil => exact ⟨Int.le_refl _, Int.le_refl _⟩
 | @cons l1 l2 a hs ih =>
  obtain ⟨h1, h2⟩ := ih fun x hx => h x (by simp [hx])
  obtain ⟨h3, h4⟩ := misN_nn (h a (by simp))
  have e2 : misS (a :: l2) = misN a + misS l2 := by unfold misS; rw [List.map_cons, List.sum_cons]
  have e3 : mostS (a :: l2) = mostN a + mostS l2 := by unfold mostS; rw [List.map_cons, List.sum_cons]
  omega
 | @cons_cons l1 l2 a hs ih =>
  obtain ⟨h1, h2⟩ := ih fun x hx => h x (by simp [hx])
  have e : ∀ l : List Nt, misS (a :: l) = misN a + misS l ∧ mostS (a :: l) = mostN a + mostS l := fun l => by unfold misS mostS; rw [List.map_cons, List.sum_cons, List.map_cons, List.sum_cons]; exact ⟨rfl, rfl⟩
  have e1 := e l1
  have e2 := e l2
  omega
theorem Rdy.sub {f : Fmt} {cf : Int} {ys xs : List Nt} (h : Rdy f cf xs) (hs : ys.Sublist xs) : Rdy f cf ys := by
 obtain ⟨h1, h2⟩ := sub_sums hs h.mks
 obtain ⟨c1, c2, c3, c4, c5, c6⟩ := chk_facts h.c
 have hn := h.n
 have hm := h.m
 have hi := h.mis
 have hl := hs.length_le
 exact rdy_of (chk_of c1 c3 (by omega) (fun x hx => c5 x (hs.subset hx)) (by omega)) (by omega) (by omega)
theorem Rdy.take {f : Fmt} {cf : Int} {xs : List Nt} (h : Rdy f cf xs) (k : Nat) : Rdy f cf (xs.take k) := h.sub (List.take_sublist _ _)
theorem bad_rng (f : Fmt) (cf : Int) (xs : List Nt) : -1 ≤ badC f cf xs ∧ badC f cf xs < xs.length := by
 unfold badC
 rcases fstC_spec (fun i => (crowdC f cf (xs.take (i + 1))).isEmpty) xs.length with ⟨h1, _⟩ | ⟨k, hk, h1, _⟩ <;> rw [h1] <;> omega
theorem Rdy.pos {f : Fmt} {cf : Int} {xs : List Nt} (h : Rdy f cf xs) : posE f cf xs = if badC f cf xs = -1 then 0 else 3 := by
 have hb := bad_rng f cf xs
 rw [posE, decide_eq_true h.c, cond_true]
 by_cases e : badC f cf xs = -1
 ·
  rw [if_pos e, e]; rfl
 ·
  rw [if_neg e, decide_eq_true (show 0 ≤ badC f cf xs by omega)]; rfl
theorem Rdy.all {f : Fmt} {cf : Int} {xs : List Nt} (h : Rdy f cf xs) : allB f cf xs = badC f cf xs := by rw [allB, decide_eq_true h.c]; rfl

section rules
variable {F : Fence} {P : Program} {ops : Array Oper} {Q : Exit → Act → World → Prop} {rest : List Oper} {n : Nat} {D : List Deferred} {l : Env} {w0 : World} {L M : List Ent}
variable {d : Nat} {ty : TypeId} {pos : String} {aft : Array Edge}
end rules
structure Lsr (f : Fmt) (cf : Int) (xs : List Nt) (cf' : Int) (xs' : List Nt) : Prop where
 len : xs'.length = xs.length
 sub : ∀ s, s ∈ keyC (crowdC f cf xs) → s ∈ keyC (crowdC f cf' xs')
theorem Rdy.bad_key {f : Fmt} {cf : Int} {xs : List Nt} (h : Rdy f cf xs) : badC f cf xs = -1 ↔ ∃ s, s ∈ keyC (crowdC f cf xs) := by
 rw [bad_none h.cf]
 cases hc : crowdC f cf xs with
 | nil => exact ⟨fun e => absurd rfl e, fun ⟨s, hs⟩ => by cases hs⟩
 | cons e l => exact ⟨fun _ => ⟨e.1, by simp [keyC]⟩, fun _ => by simp⟩
theorem Lsr.pos {f : Fmt} {cf cf' : Int} {xs xs' : List Nt} (h : Lsr f cf xs cf' xs') (hR : Rdy f cf xs) (hR' : Rdy f cf' xs') (h0 : posE f cf xs = 0) : posE f cf' xs' = 0 := by
 rw [hR.pos] at h0
 by_cases e : badC f cf xs = -1
 ·
  obtain ⟨s, hs⟩ := hR.bad_key.1 e
  rw [hR'.pos, if_pos (hR'.bad_key.2 ⟨s, h.sub s hs⟩)]
 ·
  rw [if_neg e] at h0; cases h0
theorem BdOk.some_ {f : Fmt} {cf : Int} {xs : List Nt} {o : Option BDR} (h : BdOk f cf xs o) (h0 : posE f cf xs = 0) : ∃ q, o = some q := by
 cases o with
 | none => exact absurd h0 h
 | some q => exact ⟨q, rfl⟩
theorem BdOk.mem {f : Fmt} {cf : Int} {xs : List Nt} {q : BDR} (h : BdOk f cf xs (some q)) (b : Brd) : b ∈ q.zs.map (·.b) ↔ ∃ s ∈ keyC (crowdC f cf xs), brdOf s = b := by
 rw [h.2.1]; exact (boards_facts _).2 b
end Go.Proofs.YthkliiifllhacaaGreat

namespace Go.Proofs.YthkliiifllhacaaGreat
open Go Go.RowKit

structure CW where
 (b : Nat) (ns : List Nd) (es : Array MapEntry) (c : Nat)
section
variable {w0 w : World} {M : List Ent}
end
section rules
variable {F : Fence} {P : Program} {Q : Exit → Act → World → Prop} {n : Nat} {D : List Deferred} {l : Env} {w0 : World} {L M : List Ent}
end rules
section rules2
variable {F : Fence} {P : Program} {ops : Array Oper} {Q : Exit → Act → World → Prop} {rest : List Oper} {n : Nat} {D : List Deferred} {l : Env} {w0 : World} {L M : List Ent}
end rules2
abbrev CW.v (q : CW) : List Value := [.map (some q.b)]
end Go.Proofs.YthkliiifllhacaaGreat

namespace Go.Proofs.YthkliiifllhacaaGreat
open Go Go.RowKit

theorem putNs_key {ns : List Nd} {x : Nd} {s : Spot} : s ∈ spotKs (putNs ns x) ↔ s ∈ spotKs ns ∨ s = x.s := by
 unfold putNs
 cases hg : getN ns x.s with
 | some o =>
  obtain ⟨h1, h2⟩ := getN_some hg
  refine ⟨.inl, fun h => h.elim id fun e => ?_⟩
  subst e
  exact List.mem_map.2 ⟨o, h1, h2⟩
 | none =>
  unfold spotKs
  rw [List.map_append, List.mem_append]
  simp
structure FwI (f : Fmt) (cf : Int) (xs : List Nt) (j : Nat) (N : List Nd) (mn : Nat → Pr) (ms : List CW) : Prop where
 len : ms.length = j + 1
 ok : PoolOk f N mn (15 * (mostS (xs.take j) + (j : Int)))
 cr : ∀ k q, ms[k]? = some q → CrIs N q.ns q.es q.c ∧ ∀ s, s ∈ spotKs q.ns ↔ Lft f cf xs j k s
theorem FwI.start {f : Fmt} {cf : Int} {xs : List Nt} {q : PR} (h : BgI f cf 2 q.N q.mn q.ns q.es q.c) : FwI f cf xs 0 q.N q.mn [⟨q.b, q.ns, q.es, q.c⟩] := by
 refine ⟨rfl, h.ok.up (by exact Int.le_refl _), fun k p hk => ?_⟩
 cases k with
 | succ k => simp at hk
 | zero =>
  obtain rfl : (⟨q.b, q.ns, q.es, q.c⟩ : CW) = p := by simpa using hk
  refine ⟨h.cr, fun s => ?_⟩
  have e := h.eqC
  rw [begTo_two] at e
  rw [← toC_keys q.mn q.ns, e]
  exact ⟨fun hs => ⟨rfl, hs⟩, fun hs => hs.2⟩
structure FnI (f : Fmt) (cf : Int) (xs : List Nt) (j : Nat) (m : Int) (N0 : List Nd) (k : Nat) (N : List Nd) (mn : Nat → Pr) (nx : List CW) : Prop where
 len : nx.length = k
 ok : PoolOk f N mn (15 * (mostS (xs.take j) + (j : Int)) + (k : Int) * m)
 sub : ∀ y ∈ N0, y ∈ N
 cr : ∀ i q, nx[i]? = some q → CrIs N q.ns q.es q.c ∧ ∀ s, s ∈ spotKs q.ns ↔ Lft f cf xs (j + 1) i s
theorem FwI.first {f : Fmt} {cf : Int} {xs : List Nt} {j : Nat} {N : List Nd} {mn : Nat → Pr} {ms : List CW} (h : FwI f cf xs j N mn ms) (m : Int) : FnI f cf xs j m N 0 N mn [] :=
 ⟨rfl, h.ok.up (by rw [show ((0 : Nat) : Int) * m = 0 from Int.zero_mul m]; omega), fun _ h => h, fun i q hq => by simp at hq⟩
structure FmI (f : Fmt) (cf : Int) (xs : List Nt) (j : Nat) (x : Nt) (m : Int) (N0 : List Nd) (k : Nat) (nx : List CW) (N : List Nd) (mn : Nat → Pr) (q : CW) : Prop where
 ok : PoolOk f N mn (15 * (mostS (xs.take j) + (j : Int)) + ((k + 1 : Nat) : Int) * m)
 sub : ∀ y ∈ N0, y ∈ N
 old : ∀ i p, nx[i]? = some p → CrIs N p.ns p.es p.c ∧ ∀ s, s ∈ spotKs p.ns ↔ Lft f cf xs (j + 1) i s
 cr : CrIs N q.ns q.es q.c
 keys : ∀ s, s ∈ spotKs q.ns ↔ ∃ t, Lft f cf xs j k t ∧ Rel f x t s
theorem FnI.read {f : Fmt} {cf : Int} {xs : List Nt} {j : Nat} {x : Nt} {m : Int} {N0 : List Nd} {k : Nat} {N : List Nd} {mn : Nat → Pr} {nx ms : List CW} {p : CW} {mn0 : Nat → Pr} (h : FnI f cf xs j m N0 k N mn nx) (hm : m = mostN x + 1) (h0 : FwI f cf xs j N0 mn0 ms) (hp : ms[k]? = some p) {q : PR} (hr : RdOk f N mn p.ns x (15 * (mostS (xs.take j) + (j : Int)) + (k : Int) * m) q) : FmI f cf xs j x m N0 k nx q.N q.mn ⟨q.b, q.ns, q.es, q.c⟩ := by
 refine ⟨hr.ok.up ?_, fun y hy => hr.sub y (h.sub y hy), fun i p hp => ⟨(h.cr i p hp).1.up hr.sub, (h.cr i p hp).2⟩, hr.cr, fun s => ?_⟩
 ·
  rw [show ((k + 1 : Nat) : Int) * m = (k : Int) * m + m by rw [Int.natCast_succ, Int.add_mul, Int.one_mul]]; omega
 ·
  have h1 : s ∈ spotKs q.ns ↔ s ∈ keyC (afterC f (toC mn p.ns) x) := by
   rw [← toC_keys q.mn q.ns]; exact (hr.eqC.map _).mem_iff
  rw [h1, after_mem]
  refine ⟨fun ⟨t, ht, hx⟩ => ⟨t, ?_, hx⟩, fun ⟨t, ht, hx⟩ => ⟨t, ?_, hx⟩⟩
  ·
   rw [toC_keys] at ht; exact ((h0.cr k p hp).2 t).1 ht
  ·
   rw [toC_keys]; exact ((h0.cr k p hp).2 t).2 ht
theorem FnI.none {f : Fmt} {cf : Int} {xs : List Nt} {j : Nat} {x : Nt} {m : Int} {N0 : List Nd} {k : Nat} {N : List Nd} {mn : Nat → Pr} {nx : List CW} (h : FnI f cf xs j m N0 k N mn nx) (hm : 0 ≤ m) (hk : j < k) (b : Nat) : FmI f cf xs j x m N0 k nx N mn ⟨b, [], #[], 0⟩ := by
 refine ⟨h.ok.up ?_, h.sub, h.cr, CrIs.nil N, fun s => ⟨fun hs => (by cases hs), fun ⟨t, ht, _⟩ => ?_⟩⟩
 ·
  rw [show ((k + 1 : Nat) : Int) * m = (k : Int) * m + m by rw [Int.natCast_succ, Int.add_mul, Int.one_mul]]; omega
 ·
  have := lft_le ht; omega
structure FpI (f : Fmt) (K : Int) (N1 : List Nd) (q : CW) (N : List Nd) (mn : Nat → Pr) (ns : List Nd) (es : Array MapEntry) (c : Nat) (dn : List Nd) : Prop where
 ok : PoolOk f N mn K
 sub : ∀ y ∈ N1, y ∈ N
 cr : CrIs N ns es c
 keys : ∀ s, s ∈ spotKs ns ↔ s ∈ spotKs q.ns ∨ s ∈ spotKs dn
theorem FpI.put {f : Fmt} {K : Int} {N1 : List Nd} {q : CW} {N : List Nd} {mn : Nat → Pr} {ns : List Nd} {es : Array MapEntry} {c : Nat} {dn : List Nd} (h : FpI f K N1 q N mn ns es c dn) {x : Nd} {b : Nat} (hcp : PoolOk f (⟨b, x.s, x.bf, x.sd⟩ :: N) (upN mn b (mn x.b)) K) {es2 : Array MapEntry} {c2 : Nat} (hm : MapIs es2 (crE (putNs ns ⟨b, x.s, x.bf, x.sd⟩)) ∧ Stm es2 c2) : FpI f K N1 q (⟨b, x.s, x.bf, x.sd⟩ :: N) (putM ns (upN mn b (mn x.b)) ⟨b, x.s, x.bf, x.sd⟩) (putNs ns ⟨b, x.s, x.bf, x.sd⟩) es2 c2 (dn ++ [x]) := by
 have hup : CrIs (⟨b, x.s, x.bf, x.sd⟩ :: N) ns es c := h.cr.up fun y hy => List.mem_cons_of_mem _ hy
 refine ⟨putM_ok hcp hup.sub List.mem_cons_self, fun y hy => List.mem_cons_of_mem _ (h.sub y hy), hup.put List.mem_cons_self hm, fun s => ?_⟩
 rw [putNs_key, h.keys s]
 unfold spotKs
 rw [List.map_append, List.mem_append]
 simp only [List.map_cons, List.map_nil, List.mem_singleton, or_assoc]
theorem FnI.next {f : Fmt} {cf : Int} {xs : List Nt} {j : Nat} {x : Nt} {m : Int} {N0 : List Nd} {k : Nat} {nx : List CW} {N N1 : List Nd} {mn mn1 : Nat → Pr} {q q' : CW} (hl : nx.length = k) (hx : xs[j]? = some x) (h : FmI f cf xs j x m N0 k nx N1 mn1 q) (ok : PoolOk f N mn (15 * (mostS (xs.take j) + (j : Int)) + ((k + 1 : Nat) : Int) * m)) (sub : ∀ y ∈ N1, y ∈ N) (cr : CrIs N q'.ns q'.es q'.c) (keys : ∀ s, s ∈ spotKs q'.ns ↔ s ∈ spotKs q.ns ∨ ∃ k', k = k' + 1 ∧ Lft f cf xs j k' s) : FnI f cf xs j m N0 (k + 1) N mn (nx ++ [q']) := by
 refine ⟨by rw [List.length_append, hl]; rfl, ok, fun y hy => sub y (h.sub y hy), fun i p hp => ?_⟩
 by_cases e : i < k
 ·
  rw [List.getElem?_append_left (by omega)] at hp
  exact ⟨(h.old i p hp).1.up sub, (h.old i p hp).2⟩
 ·
  rw [List.getElem?_append_right (by omega)] at hp
  obtain ⟨rfl, hk⟩ : q' = p ∧ i = k := by
   cases hd : i - nx.length with
   | zero => rw [hd] at hp; exact ⟨by simpa using hp, by omega⟩
   | succ d => rw [hd] at hp; simp at hp
  subst hk
  refine ⟨cr, fun s => ?_⟩
  rw [keys s, h.keys s]
  constructor
  ·
   rintro (⟨t, ht, hr⟩ | ⟨k', e, hs⟩)
   ·
    exact .inl ⟨x, t, hx, ht, hr⟩
   ·
    exact .inr ⟨k', e, hs⟩
  ·
   rintro (⟨y, t, hy, ht, hr⟩ | ⟨k', e, hs⟩)
   ·
    rw [hx] at hy; cases hy
    exact .inl ⟨t, ht, hr⟩
   ·
    exact .inr ⟨k', e, hs⟩
theorem FnI.done {f : Fmt} {cf : Int} {xs : List Nt} {j : Nat} {x : Nt} {m : Int} {N0 N : List Nd} {mn : Nat → Pr} {nx : List CW} {k : Nat} (h : FnI f cf xs j m N0 k N mn nx) (hk : k = j + 2) (hx : xs[j]? = some x) (hm : m = mostN x + 1) (hm0 : 0 ≤ m) (hj : j ≤ 12) : FwI f cf xs (j + 1) N mn nx := by
 subst hk
 refine ⟨h.len, h.ok.up ?_, h.cr⟩
 rw [mostS_succ hx]
 have : ((j + 2 : Nat) : Int) * m ≤ 15 * m := Int.mul_le_mul_of_nonneg_right (by omega) hm0
 have e : 15 * (mostS (xs.take j) + mostN x + ((j + 1 : Nat) : Int)) = 15 * (mostS (xs.take j) + (j : Int)) + 15 * m := by rw [hm]; omega
 omega
end Go.Proofs.YthkliiifllhacaaGreat

namespace Go.Proofs.YthkliiifllhacaaGreat
open Go Go.RowKit

section rules
variable {F : Fence} {P : Program} {n : Nat} {D : List Deferred} {l : Env} {w0 : World} {L : List Ent}
end rules
end Go.Proofs.YthkliiifllhacaaGreat

namespace Go.Proofs.YthkliiifllhacaaGreat
open Go Go.RowKit

section
variable {f : Fmt} {cf : Int} {xs : List Nt}
end
end Go.Proofs.YthkliiifllhacaaGreat

namespace Go.Proofs.YthkliiifllhacaaGreat
open Go Go.RowKit

theorem St.nilOwn {w0 w : World} {L : List Ent} (h : St w0 w L) (T : TypeId) (size : Nat) : St w0 w (.own none 0 T size 0 [] :: L) := by
 refine St.add (M := [_]) h (Blw.refl _ _) (fun e he => ?_) (fun e he b hb' => ?_) (List.pairwise_singleton _ _)
 ·
  simp only [List.mem_singleton] at he; subst he; exact ⟨World.ownsRow_nil w 0 T size, Rd.nil w none size⟩
 ·
  simp only [List.mem_singleton] at he; subst he; obtain ⟨ad, had, _⟩ := hb'; cases had
end Go.Proofs.YthkliiifllhacaaGreat

namespace Go.Proofs.YthkliiifllhacaaGreat
open Go


def encIL (xs : List Int) : List (List Value) := xs.map fun x => [.int .i64 x]
theorem encI_app (xs : List Int) (x : Int) : encIL xs ++ [[.int .i64 x]] = encIL (xs ++ [x]) := by simp [encIL]
structure Strip where
 (p q lo hi : Int)
def Strip.enc (s : Strip) : List Value := [.int .i64 s.p, .int .i64 s.q, .int .i64 s.lo, .int .i64 s.hi]
structure View where
 (size : Int) (strips : List Strip) (wr hxl hxh hyl hyh : Int)
abbrev View.val (v : View) (A : Option Addr) (n c : Nat) : Value := .agg #[.int .i64 v.size, .slice A n c, .int .i64 v.wr, .int .i64 v.hxl, .int .i64 v.hxh, .int .i64 v.hyl, .int .i64 v.hyh]
abbrev View.cells (v : View) (A : Option Addr) (n c : Nat) : List Value := [.int .i64 v.size, .slice A n c, .int .i64 v.wr, .int .i64 v.hxl, .int .i64 v.hxh, .int .i64 v.hyl, .int .i64 v.hyh]
abbrev View.enc (v : View) : List (List Value) := v.strips.map Strip.enc
structure Box where
 (l r b t : Int)
abbrev Box.val (b : Box) : Value := .agg #[.int .i64 b.l, .int .i64 b.r, .int .i64 b.b, .int .i64 b.t]
structure Mark where
 (x y hx hy : Int)
abbrev Mark.val (m : Mark) : Value := .agg #[.int .i64 m.x, .int .i64 m.y, .int .i64 m.hx, .int .i64 m.hy]

def wiL (n lo hi : Int) : Bool := decide (lo ≤ n) && decide (n ≤ hi)
def isp (l h lo hi : Int) : Bool := decide (l ≤ h) && wiL l lo hi && wiL h lo hi
def iStrip (s : Strip) : Bool := wiL s.p (-3) 3 && wiL s.q (-3) 3 && (!decide (s.p = 0) || !decide (s.q = 0)) && isp s.lo s.hi (-500) 500
def vbad (v : View) : Bool := v.strips.any (fun s => !iStrip s) || decide ((8 : Int) < v.strips.length) || !wiL v.size 0 40 || !wiL v.wr 0 3 || !isp v.hxl v.hxh 1 9 || !isp v.hyl v.hyh 1 9
def chkV (v : View) : Int := bif vbad v then 20 else 0
def bbad (b : Box) : Bool := !isp b.l b.r 0 40 || !isp b.b b.t 0 40
def chkB (b : Box) : Int := bif bbad b then 21 else 0
def bey (n lo hi : Int) : Int := max (max 0 (lo - n)) (n - hi)
def tch (m : Mark) (b : Box) : Bool :=
 decide (bey m.x b.l b.r * m.hy * (bey m.x b.l b.r * m.hy) + bey m.y b.b b.t * m.hx * (bey m.y b.b b.t * m.hx) ≤ m.hx * m.hy * (m.hx * m.hy))
theorem wi_iffL {n lo hi : Int} : wiL n lo hi = true ↔ lo ≤ n ∧ n ≤ hi := by simp [wiL]
theorem isp_iff {l h lo hi : Int} : isp l h lo hi = true ↔ l ≤ h ∧ lo ≤ l ∧ h ≤ hi := by
 simp only [isp, Bool.and_eq_true, decide_eq_true_eq, wi_iffL]; omega

structure Box.Ok (b : Box) : Prop where
 k0 : 0 ≤ b.l
 k1 : b.l ≤ b.r
 k2 : b.r ≤ 40
 k3 : 0 ≤ b.b
 k4 : b.b ≤ b.t
 k5 : b.t ≤ 40
structure Mark.Ok (m : Mark) : Prop where
 x0 : 0 ≤ m.x
 x1 : m.x ≤ 40
 y0 : 0 ≤ m.y
 y1 : m.y ≤ 40
 hx0 : 1 ≤ m.hx
 hx1 : m.hx ≤ 9
 hy0 : 1 ≤ m.hy
 hy1 : m.hy ≤ 9
theorem bbad_ok {b : Box} (h : bbad b = false) : b.Ok := by
 simp only [bbad, Bool.or_eq_false_iff, Bool.not_eq_false', isp_iff] at h
 exact ⟨by omega, by omega, by omega, by omega, by omega, by omega⟩
theorem mul_bnd {a b A B : Int} (ha : 0 ≤ a ∧ a ≤ A) (hb : 0 ≤ b ∧ b ≤ B) : 0 ≤ a * b ∧ a * b ≤ A * B :=
 ⟨Int.mul_nonneg ha.1 hb.1, Int.mul_le_mul ha.2 hb.2 hb.1 (by omega)⟩
theorem mul_abs {p x : Int} (h1 : -3 ≤ p) (h2 : p ≤ 3) (hx : 0 ≤ x ∧ x ≤ 40) : -120 ≤ p * x ∧ p * x ≤ 120 := by
 have e : ∀ q : Int, 0 ≤ q → q ≤ 3 → 0 ≤ q * x ∧ q * x ≤ 120 := fun q a b => by have := mul_bnd (a := q) (A := 3) ⟨a, b⟩ hx; omega
 by_cases hp : 0 ≤ p
 ·
  have := e p hp h2; omega
 ·
  have := e (-p) (by omega) (by omega)
  rw [Int.neg_mul] at this; omega
theorem bey_bnd {n lo hi : Int} (h : 0 ≤ n ∧ n ≤ 40 ∧ 0 ≤ lo ∧ lo ≤ 40 ∧ 0 ≤ hi ∧ hi ≤ 40) : 0 ≤ bey n lo hi ∧ bey n lo hi ≤ 40 := by unfold bey; omega
structure TchBnd (m : Mark) (b : Box) : Prop where
 k1 : 0 ≤ bey m.x b.l b.r * m.hy ∧ bey m.x b.l b.r * m.hy ≤ 360
 k2 : 0 ≤ bey m.y b.b b.t * m.hx ∧ bey m.y b.b b.t * m.hx ≤ 360
 k3 : 0 ≤ m.hx * m.hy ∧ m.hx * m.hy ≤ 81
 k4 : 0 ≤ bey m.x b.l b.r * m.hy * (bey m.x b.l b.r * m.hy) ∧ bey m.x b.l b.r * m.hy * (bey m.x b.l b.r * m.hy) ≤ 129600
 k5 : 0 ≤ bey m.y b.b b.t * m.hx * (bey m.y b.b b.t * m.hx) ∧ bey m.y b.b b.t * m.hx * (bey m.y b.b b.t * m.hx) ≤ 129600
 k6 : 0 ≤ m.hx * m.hy * (m.hx * m.hy) ∧ m.hx * m.hy * (m.hx * m.hy) ≤ 6561
theorem tch_bnd {m : Mark} {b : Box} (hm : m.Ok) (hb : b.Ok) : TchBnd m b := by
 obtain ⟨a1, a2, a3, a4, a5, a6, a7, a8⟩ := hm
 obtain ⟨b1, b2, b3, b4, b5, b6⟩ := hb
 have e1 := bey_bnd (n := m.x) (lo := b.l) (hi := b.r) (by omega)
 have e2 := bey_bnd (n := m.y) (lo := b.b) (hi := b.t) (by omega)
 have f1 := mul_bnd e1 (b := m.hy) (B := 9) (by omega)
 have f2 := mul_bnd e2 (b := m.hx) (B := 9) (by omega)
 have f3 := mul_bnd (a := m.hx) (A := 9) (by omega) (b := m.hy) (B := 9) (by omega)
 exact ⟨f1, f2, f3, mul_bnd f1 f1, mul_bnd f2 f2, mul_bnd f3 f3⟩
structure View.Near (v : View) : Prop where
 s0 : 0 ≤ v.size
 s1 : v.size ≤ 40
 hx0 : 1 ≤ v.hxl
 hx : v.hxl ≤ v.hxh
 hx1 : v.hxh ≤ 9
 hy0 : 1 ≤ v.hyl
 hy : v.hyl ≤ v.hyh
 hy1 : v.hyh ≤ 9
 len : v.strips.length ≤ 8
 slope : ∀ s ∈ v.strips, -3 ≤ s.p ∧ s.p ≤ 3 ∧ -3 ≤ s.q ∧ s.q ≤ 3
theorem vbad_near {v : View} (h : vbad v = false) : v.Near := by
 simp only [vbad, Bool.or_eq_false_iff, Bool.not_eq_false', isp_iff, wi_iffL, decide_eq_false_iff_not, List.any_eq_false] at h
 obtain ⟨⟨⟨⟨⟨hs, hl⟩, hz⟩, hw⟩, hx⟩, hy⟩ := h
 refine ⟨by omega, by omega, by omega, by omega, by omega, by omega, by omega, by omega, by omega, fun s hm => ?_⟩
 have := hs s hm
 simp only [iStrip, Bool.not_eq_true, Bool.not_eq_false', Bool.and_eq_true, wi_iffL] at this
 omega

def pAtL {α : Type} (ss : List α) (q : α → Bool) (k : Nat) : Bool := match ss[k]? with
 | some s => q s
 | none => false
theorem pAt_eqL {α : Type} {ss : List α} {q : α → Bool} {k : Nat} {s : α} (h : ss[k]? = some s) : pAtL ss q k = q s := by simp only [pAtL, h]
theorem pAt_anyL {α : Type} (ss : List α) (q : α → Bool) : (List.range ss.length).any (pAtL ss q) = ss.any q := by
 rw [Bool.eq_iff_iff]
 simp only [List.any_eq_true, List.mem_range]
 constructor
 ·
  rintro ⟨k, hk, h⟩
  simp only [pAtL, List.getElem?_eq_getElem hk] at h
  exact ⟨ss[k], List.getElem_mem hk, h⟩
 ·
  rintro ⟨s, hs, h⟩
  obtain ⟨k, hk, rfl⟩ := List.getElem_of_mem hs
  exact ⟨k, hk, by simp only [pAtL, List.getElem?_eq_getElem hk]; exact h⟩
def FstL (p : Nat → Bool) (n : Nat) (j : Int) : Prop := (∃ k : Nat, k < n ∧ j = k ∧ p k = true ∧ ∀ i, i < k → p i = false) ∨ (j = -1 ∧ ∀ i, i < n → p i = false)
theorem FstL.any {p : Nat → Bool} {n : Nat} {j : Int} (h : FstL p n j) : decide (0 ≤ j) = (List.range n).any p := by
 rcases h with ⟨k, hk, rfl, hp, _⟩ | ⟨rfl, hp⟩
 ·
  rw [decide_eq_true (by omega)]
  exact (List.any_eq_true.2 ⟨k, by simpa using hk, hp⟩).symm
 ·
  rw [decide_eq_false (by omega)]
  exact (List.any_eq_false.2 fun k hk => by simp [hp k (by simpa using hk)]).symm
theorem enc_atL {α : Type} {f : α → List Value} {ss : List α} {k : Nat} {cs : List Value} (h : (ss.map f)[k]? = some cs) : ∃ s, ss[k]? = some s ∧ cs = f s := by
 rw [List.getElem?_map] at h
 cases hs : ss[k]? with
 | none => simp [hs] at h
 | some s => exact ⟨s, rfl, by simpa [hs] using h.symm⟩
structure LS where
 (k m : Nat) (es : List (List Value)) (A : Option Addr) (c : Nat)

def miss (s : Strip) (x y : Int) : Bool := !wiL (s.p * x + s.q * y) s.lo s.hi
def wrongTo (ss : List Strip) (x y : Int) : Nat → List Int
 | 0 => []
 | k + 1 => match ss[k]? with
  | some s => bif miss s x y then wrongTo ss x y k ++ [(k : Int)] else wrongTo ss x y k
  | none => wrongTo ss x y k
def wrongs (v : View) (x y : Int) : List Int := wrongTo v.strips x y v.strips.length
theorem wrongTo_succ {ss : List Strip} {x y : Int} {k : Nat} {s : Strip} (h : ss[k]? = some s) : wrongTo ss x y (k + 1) = bif miss s x y then wrongTo ss x y k ++ [(k : Int)] else wrongTo ss x y k := by
 rw [wrongTo]; simp [h]
theorem wrongTo_len (ss : List Strip) (x y : Int) : ∀ k, (wrongTo ss x y k).length ≤ k
 | 0 => by simp [wrongTo]
 | k + 1 => by
  have := wrongTo_len ss x y k
  rw [wrongTo]; split
  ·
   cases miss _ x y <;> simp <;> omega
  ·
   omega

def View.m (v : View) : Nat := v.size.toNat + 1
def ctr (v : View) (k : Nat) : Int × Int := (((k / v.m : Nat) : Int), ((k % v.m : Nat) : Int))
def encPL (ps : List (Int × Int)) : List (List Value) := ps.map fun p => [.int .i64 p.1, .int .i64 p.2]
def tru (v : View) (p : Int × Int) : Bool := decide (((wrongs v p.1 p.2).length : Int) ≤ v.wr)
def truTo (v : View) : Nat → List (Int × Int)
 | 0 => []
 | k + 1 => bif tru v (ctr v k) then truTo v k ++ [ctr v k] else truTo v k
def trus (v : View) : List (Int × Int) := truTo v (v.m * v.m)
theorem truTo_len (v : View) : ∀ k, (truTo v k).length ≤ k
 | 0 => by simp [truTo]
 | k + 1 => by
  have := truTo_len v k
  rw [truTo]; cases tru v (ctr v k) <;> simp <;> omega
theorem m_le {v : View} (h : v.Near) : v.m ≤ 41 := by have := h.s0; have := h.s1; unfold View.m; omega
theorem m_int {v : View} (h : v.Near) : (v.m : Int) = v.size + 1 := by have := h.s0; unfold View.m; omega
theorem ctr_eq {v : View} {i j : Nat} (h : j < v.m) : ctr v (i * v.m + j) = ((i : Int), (j : Int)) := by
 have e1 : (i * v.m + j) / v.m = i := by rw [Nat.mul_comm, Nat.mul_add_div (by omega), Nat.div_eq_of_lt h, Nat.add_zero]
 have e2 : (i * v.m + j) % v.m = j := by rw [Nat.mul_comm, Nat.mul_add_mod, Nat.mod_eq_of_lt h]
 simp only [ctr, e1, e2]
theorem ctr_lt {v : View} (h : v.Near) {k : Nat} (hk : k < v.m * v.m) : (0 ≤ (ctr v k).1 ∧ (ctr v k).1 ≤ 40) ∧ 0 ≤ (ctr v k).2 ∧ (ctr v k).2 ≤ 40 := by
 have h1 : k / v.m < v.m := Nat.div_lt_of_lt_mul hk
 have h2 : k % v.m < v.m := Nat.mod_lt _ (by unfold View.m; omega)
 have h3 := m_le h
 simp only [ctr]
 generalize k / v.m = q at *
 generalize k % v.m = r at *
 omega
theorem ctr_in {m i j : Nat} (hi : i < m) (hj : j < m) : i * m + j < m * m := by
 have := Nat.mul_le_mul_right m (Nat.succ_le_of_lt hi)
 rw [Nat.succ_mul] at this
 omega
theorem encP_appL (ps : List (Int × Int)) (p : Int × Int) : encPL ps ++ [[.int .i64 p.1, .int .i64 p.2]] = encPL (ps ++ [p]) := by simp [encPL]
structure LY (Y : Type) where
 (k : Nat) (y : Y)
theorem mm_le {v : View} (h : v.Near) : v.m * v.m ≤ 1681 := Nat.mul_le_mul (m_le h) (m_le h)
theorem truTo_mem {v : View} {p : Int × Int} : ∀ {k : Nat}, p ∈ truTo v k → ∃ j, j < k ∧ p = ctr v j ∧ tru v p = true
 | 0, h => by simp [truTo] at h
 | k + 1, h => by
  rw [truTo] at h
  cases ht : tru v (ctr v k) <;> rw [ht] at h
  ·
   obtain ⟨j, hj, h1⟩ := truTo_mem h
   exact ⟨j, by omega, h1⟩
  ·
   rcases List.mem_append.1 h with h | h
   ·
    obtain ⟨j, hj, h1⟩ := truTo_mem h
    exact ⟨j, by omega, h1⟩
   ·
    simp only [List.mem_singleton] at h
    exact ⟨k, by omega, h, by rw [h]; exact ht⟩
theorem trus_rng {v : View} (hv : v.Near) {p : Int × Int} (h : p ∈ trus v) : (0 ≤ p.1 ∧ p.1 ≤ 40) ∧ 0 ≤ p.2 ∧ p.2 ≤ 40 := by
 obtain ⟨j, hj, rfl, _⟩ := truTo_mem h
 exact ctr_lt hv hj
def smallM (v : View) (p : Int × Int) : Mark := ⟨p.1, p.2, v.hxl, v.hyl⟩
def largeM (v : View) (p : Int × Int) : Mark := ⟨p.1, p.2, v.hxh, v.hyh⟩
theorem small_ok {v : View} (hv : v.Near) {p : Int × Int} (h : p ∈ trus v) : (smallM v p).Ok := by
 have := trus_rng hv h; obtain ⟨a1, a2, a3, a4, a5, a6, a7, a8, _, _⟩ := hv
 constructor <;> simp only [smallM] <;> omega
theorem large_ok {v : View} (hv : v.Near) {p : Int × Int} (h : p ∈ trus v) : (largeM v p).Ok := by
 have := trus_rng hv h; obtain ⟨a1, a2, a3, a4, a5, a6, a7, a8, _, _⟩ := hv
 constructor <;> simp only [largeM] <;> omega

def none0 (v : View) : Bool := decide (((trus v).length : Int) = 0)
def callV (v : View) (b : Box) : Int :=
 bif none0 v then 0 else bif !((trus v).any fun p => !tch (smallM v p) b) then 1 else bif !((trus v).any fun p => tch (largeM v p) b) then 2 else 3
def chkVB (v : View) (b : Box) : Int := bif !decide (chkV v = 0) then chkV v else chkB b
def callR (v : View) (b : Box) : List Value := bif !decide (chkVB v b = 0) then [.int .i64 0, .int .i64 (chkVB v b)] else bif decide (callV v b = 0) then [.int .i64 0, .int .i64 3] else [.int .i64 (callV v b), .int .i64 0]
theorem chkV_ok {v : View} (h : (!decide (chkV v = 0)) = false) : vbad v = false := by
 cases hb : vbad v
 ·
  rfl
 ·
  simp [chkV, hb] at h
theorem chkVB_ok {v : View} {b : Box} (h : (!decide (chkVB v b = 0)) = false) : vbad v = false ∧ bbad b = false := by
 unfold chkVB at h
 cases hv : !decide (chkV v = 0)
 ·
  rw [hv] at h
  refine ⟨chkV_ok hv, ?_⟩
  cases hb : bbad b
  ·
   rfl
  ·
   simp [chkB, hb] at h
 ·
  rw [hv] at h; simp only [cond_true] at h; rw [h] at hv; cases hv
def foldTo (f : Int → Int → Int) (g : Int × Int → Int) (a : Int) (l : List (Int × Int)) : Nat → Int
 | 0 => a
 | k + 1 => match l[k]? with
  | some p => f (foldTo f g a l k) (g p)
  | none => foldTo f g a l k
theorem foldTo_succ {f : Int → Int → Int} {g : Int × Int → Int} {a : Int} {l : List (Int × Int)} {k : Nat} {p : Int × Int} (h : l[k]? = some p) : foldTo f g a l (k + 1) = f (foldTo f g a l k) (g p) := by
 rw [foldTo]; simp [h]
def ext (f : Int → Int → Int) (g : Int × Int → Int) (l : List (Int × Int)) : Int := match l with
 | [] => 0
 | p :: _ => foldTo f g (g p) l l.length
structure LC where
 (k : Nat) (a b c d : Int)
def LC.ok (z : LC) (p0 : Int × Int) (l : List (Int × Int)) : Prop :=
 z.a = foldTo min (·.1) p0.1 l z.k ∧ z.b = foldTo max (·.1) p0.1 l z.k ∧ z.c = foldTo min (·.2) p0.2 l z.k ∧ z.d = foldTo max (·.2) p0.2 l z.k
theorem LC.next {z : LC} {p0 p : Int × Int} {l : List (Int × Int)} (h : z.ok p0 l) (hp : l[z.k]? = some p) : LC.ok ⟨z.k + 1, min z.a p.1, max z.b p.1, min z.c p.2, max z.d p.2⟩ p0 l := by
 obtain ⟨h1, h2, h3, h4⟩ := h
 refine ⟨?_, ?_, ?_, ?_⟩ <;> dsimp only <;> rw [foldTo_succ hp] <;> simp only [h1, h2, h3, h4]
end Go.Proofs.YthkliiifllhacaaGreat

namespace Go.Proofs.YthkliiifllhacaaGreat
open Go Go.RowKit

theorem C_lines_within (n lo hi : Int) (w : World) : C0 Tryz.prog 131 [.int .i64 n, .int .i64 lo, .int .i64 hi] w (.bool (wiL n lo hi)) := by
 refine ⟨en Tryz.func131 Tryz.ntmps131 (St.init w) (h := fun F => ?_)⟩
 refine sr ?_
 refine ww ?_
 refine nr ?_
 iterate 4 refine ww ?_
 apply brAnd 4 10 14 (by exact rfl)
 ·
  intro hb0
  iterate 3 refine uw ?_
  refine ww ?_
  exact mg (by repeat (first | exact trivial | refine ⟨rfl, ?_⟩ | refine ⟨by rw [hb0]; rfl, ?_⟩)) slz_
 ·
  intro hb0
  repeat (first | refine uz ?_ | refine kz ?_ | refine wz ?_)
  exact mg (by repeat (first | exact trivial | refine ⟨rfl, ?_⟩ | refine ⟨by rw [hb0]; rfl, ?_⟩)) slz_
 refine ww ?_
 refine nq ?_
 refine rtn ?_
 refine q_ret (hR := ?_)
 exact fun w hS => ⟨rfl, hS.sub slz_⟩

theorem C_lines_isSpan (l h lo hi : Int) (w : World) : C0 Tryz.prog 132 [.agg #[.int .i64 l, .int .i64 h], .int .i64 lo, .int .i64 hi] w (.bool (isp l h lo hi)) := by
 refine ⟨en Tryz.func132 Tryz.ntmps132 (St.init w) (h := fun F => ?_)⟩
 refine sr ?_
 refine bxA (h := fun b0 => ?_)
 refine ww ?_
 refine nr ?_
 iterate 6 refine ww ?_
 apply brAnd 6 12 18 (by exact rfl)
 ·
  intro hb0
  iterate 4 refine uw ?_
  refine uz ?_
  refine cl0 (hc := fun w hS => C_lines_within ..) (h := ?_)
  refine ww ?_
  exact mg (by repeat (first | exact trivial | refine ⟨rfl, ?_⟩ | refine ⟨by rw [hb0]; rfl, ?_⟩)) slz_
 ·
  intro hb0
  repeat (first | refine uz ?_ | refine kz ?_ | refine wz ?_)
  exact mg (by repeat (first | exact trivial | refine ⟨rfl, ?_⟩ | refine ⟨by rw [hb0]; rfl, ?_⟩)) slz_
 refine ww ?_
 apply brAnd 6 19 25 (by exact rfl)
 ·
  intro hb1
  iterate 4 refine uw ?_
  refine uz ?_
  refine cl0 (hc := fun w hS => C_lines_within ..) (h := ?_)
  refine ww ?_
  exact mg (by repeat (first | exact trivial | refine ⟨rfl, ?_⟩ | refine ⟨by rw [hb1]; rfl, ?_⟩)) slz_
 ·
  intro hb1
  repeat (first | refine uz ?_ | refine kz ?_ | refine wz ?_)
  exact mg (by repeat (first | exact trivial | refine ⟨rfl, ?_⟩ | refine ⟨by rw [hb1]; rfl, ?_⟩)) slz_
 refine ww ?_
 refine nq ?_
 refine rtn ?_
 refine q_ret (hR := ?_)
 exact fun w hS => ⟨rfl, hS.sub slz_⟩

theorem C_lines_isStrip (s : Strip) (w : World) : C0 Tryz.prog 130 [.agg s.enc.toArray] w (.bool (iStrip s)) := by
 unfold Strip.enc
 refine ⟨en Tryz.func130 Tryz.ntmps130 (St.init w) (h := fun F => ?_)⟩
 refine sr ?_
 refine bxA (h := fun b0 => ?_)
 refine ww ?_
 refine nr ?_
 iterate 2 refine ww ?_
 refine cl0 (hc := fun w hS => C_lines_within ..) (h := ?_)
 refine ww ?_
 apply brAnd 4 6 10 (by exact rfl)
 ·
  intro hb0
  iterate 2 refine uw ?_
  refine uz ?_
  refine cl0 (hc := fun w hS => C_lines_within ..) (h := ?_)
  refine ww ?_
  exact mg (by repeat (first | exact trivial | refine ⟨rfl, ?_⟩ | refine ⟨by rw [hb0]; rfl, ?_⟩)) slz_
 ·
  intro hb0
  repeat (first | refine uz ?_ | refine kz ?_ | refine wz ?_)
  exact mg (by repeat (first | exact trivial | refine ⟨rfl, ?_⟩ | refine ⟨by rw [hb0]; rfl, ?_⟩)) slz_
 refine ww ?_
 apply brAnd 9 11 20 (by exact rfl)
 ·
  intro hb1
  iterate 4 refine uw ?_
  apply brOr 4 15 19 (by exact rfl)
  ·
   intro hb2
   iterate 4 refine uw ?_
   exact mg (by repeat (first | exact trivial | refine ⟨rfl, ?_⟩ | refine ⟨by rw [hb2]; rfl, ?_⟩ | refine ⟨by rw [hb1]; rfl, ?_⟩)) slz_
  ·
   intro hb2
   repeat (first | refine uz ?_ | refine kz ?_ | refine wz ?_)
   exact mg (by repeat (first | exact trivial | refine ⟨rfl, ?_⟩ | refine ⟨by rw [hb2]; rfl, ?_⟩ | refine ⟨by rw [hb1]; rfl, ?_⟩)) slz_
  refine ww ?_
  exact mg (by repeat (first | exact trivial | refine ⟨rfl, ?_⟩ | refine ⟨by rw [hb1]; rfl, ?_⟩)) slz_
 ·
  intro hb1
  repeat (first | refine uz ?_ | refine kz ?_ | refine wz ?_)
  exact mg (by repeat (first | exact trivial | refine ⟨rfl, ?_⟩ | refine ⟨by rw [hb1]; rfl, ?_⟩)) slz_
 refine ww ?_
 apply brAnd 7 21 28 (by exact rfl)
 ·
  intro hb3
  iterate 5 refine uw ?_
  refine uz ?_
  refine cl0 (hc := fun w hS => C_lines_isSpan ..) (h := ?_)
  refine ww ?_
  exact mg (by repeat (first | exact trivial | refine ⟨rfl, ?_⟩ | refine ⟨by rw [hb3]; rfl, ?_⟩)) slz_
 ·
  intro hb3
  repeat (first | refine uz ?_ | refine kz ?_ | refine wz ?_)
  exact mg (by repeat (first | exact trivial | refine ⟨rfl, ?_⟩ | refine ⟨by rw [hb3]; rfl, ?_⟩)) slz_
 refine ww ?_
 refine nq ?_
 refine rtn ?_
 refine q_ret (hR := ?_)
 exact fun w hS => ⟨rfl, hS.sub slz_⟩

theorem C_lines_checkBox (b : Box) (w : World) : C0 Tryz.prog 87 [b.val] w (.int .i64 (chkB b)) := by
 refine ⟨en Tryz.func87 Tryz.ntmps87 (St.init w) (h := fun F => ?_)⟩
 refine sr ?_
 refine bxA (h := fun b0 => ?_)
 refine ww ?_
 refine nq ?_
 refine sq ?_
 refine sr ?_
 iterate 5 refine ww ?_
 refine cl0 (hc := fun w hS => C_lines_isSpan ..) (h := ?_)
 iterate 2 refine ww ?_
 apply brOr 8 10 18 (by exact rfl)
 ·
  intro hb0
  iterate 5 refine uw ?_
  refine uz ?_
  refine cl0 (hc := fun w hS => C_lines_isSpan ..) (h := ?_)
  refine uw ?_
  refine ww ?_
  exact mg (by repeat (first | exact trivial | refine ⟨rfl, ?_⟩ | refine ⟨by rw [hb0]; rfl, ?_⟩)) slz_
 ·
  intro hb0
  repeat (first | refine uz ?_ | refine kz ?_ | refine wz ?_)
  exact mg (by repeat (first | exact trivial | refine ⟨rfl, ?_⟩ | refine ⟨by rw [hb0]; rfl, ?_⟩)) slz_
 refine nq ?_
 refine czz (fun h1 => ?_) fun h1 => ?_
 ·
  refine sr ?_
  refine ww ?_
  refine nq ?_
  refine rtn ?_
  refine q_then_ret ?_
  refine q_ret (hR := ?_)
  exact fun w hS => ⟨cdT' (fun x : Int => Ending.returned (Value.int .i64 x)) h1, hS.sub slz_⟩
 ·
  refine skp ?_
  refine q_seq ?_
  refine sr ?_
  refine ww ?_
  refine nq ?_
  refine rtn ?_
  refine q_ret (hR := ?_)
  exact fun w hS => ⟨cdF' (fun x : Int => Ending.returned (Value.int .i64 x)) h1, hS.sub slz_⟩

theorem C_lines_beyond (n lo hi : Int) (h : 0 ≤ n ∧ n ≤ 40 ∧ 0 ≤ lo ∧ lo ≤ 40 ∧ 0 ≤ hi ∧ hi ≤ 40) (w : World) : C0 Tryz.prog 135 [.int .i64 n, .int .i64 lo, .int .i64 hi] w (.int .i64 (bey n lo hi)) := by
 refine ⟨en Tryz.func135 Tryz.ntmps135 (St.init w) (h := fun F => ?_)⟩
 refine sr ?_
 refine ww ?_
 refine nr ?_
 iterate 6 refine ww ?_
 refine wy maxI3 ?_
 refine ww ?_
 refine nq ?_
 refine rtn ?_
 refine q_ret (hR := ?_)
 exact fun w hS => ⟨rfl, hS.sub slz_⟩

theorem C_lines_touches (m : Mark) (b : Box) (hm : m.Ok) (hb : b.Ok) (w : World) : C0 Tryz.prog 91 [m.val, b.val] w (.bool (tch m b)) := by
 obtain ⟨k1, k2, k3, k4, k5, k6⟩ := tch_bnd hm hb
 obtain ⟨a1, a2, a3, a4, a5, a6, a7, a8⟩ := hm
 obtain ⟨b1, b2, b3, b4, b5, b6⟩ := hb
 refine ⟨en Tryz.func91 Tryz.ntmps91 (St.init w) (h := fun F => ?_)⟩
 refine sr ?_
 refine bxA (h := fun b0 => ?_)
 refine bxA (h := fun b1 => ?_)
 refine ww ?_
 refine nq ?_
 refine sq ?_
 refine rgD0 (by kernel_rfl) (h := ?_)
 refine tw 0 ?_
 refine tw 1 ?_
 refine tw 2 ?_
 refine tw 3 ?_
 refine tw 4 ?_
 refine tw 5 ?_
 refine tw 7 ?_
 refine tw 8 ?_
 refine tw 10 ?_
 refine tw 11 ?_
 refine tw 12 ?_
 refine tw 13 ?_
 refine tw 14 ?_
 refine tw 15 ?_
 refine tw 17 ?_
 refine tw 18 ?_
 refine one 6 (h := ?_)
 refine cl0 (hc := fun w hS => C_lines_beyond _ _ _ (by omega) w) (h := ?_)
 refine nx (h := ?_)
 refine tw 9 ?_
 refine one 16 (h := ?_)
 refine cl0 (hc := fun w hS => C_lines_beyond _ _ _ (by omega) w) (h := ?_)
 refine nx (h := ?_)
 refine tw 19 ?_
 refine tw 20 ?_
 refine tw 21 ?_
 refine dn (h := ?_)
 refine q_seq ?_
 refine sr ?_
 iterate 6 refine ww ?_
 refine nr ?_
 iterate 12 refine ww ?_
 refine nq ?_
 refine rtn ?_
 refine q_ret (hR := ?_)
 exact fun w hS => ⟨rfl, hS.sub slz_⟩

theorem C_lines_small (v : View) (A : Option Addr) (n c : Nat) (x y : Int) (w : World) : C0 Tryz.prog 92 [v.val A n c, .agg #[.int .i64 x, .int .i64 y]] w (Mark.val ⟨x, y, v.hxl, v.hyl⟩) := by
 refine ⟨en Tryz.func92 Tryz.ntmps92 (St.init w) (h := fun F => ?_)⟩
 refine sr ?_
 refine bxA (h := fun b0 => ?_)
 refine bxA (h := fun b1 => ?_)
 refine al (h := fun b2 => ?_)
 refine nr ?_
 iterate 11 refine ww ?_
 first | refine stA (h := ?_) | refine stEA (h := ?_)
 refine nq ?_
 refine rtn ?_
 refine q_ret (hR := ?_)
 exact fun w hS => ⟨rfl, hS.sub slz_⟩
theorem C_lines_large (v : View) (A : Option Addr) (n c : Nat) (x y : Int) (w : World) : C0 Tryz.prog 94 [v.val A n c, .agg #[.int .i64 x, .int .i64 y]] w (Mark.val ⟨x, y, v.hxh, v.hyh⟩) := by
 refine ⟨en Tryz.func94 Tryz.ntmps94 (St.init w) (h := fun F => ?_)⟩
 refine sr ?_
 refine bxA (h := fun b0 => ?_)
 refine bxA (h := fun b1 => ?_)
 refine al (h := fun b2 => ?_)
 refine nr ?_
 iterate 11 refine ww ?_
 first | refine stA (h := ?_) | refine stEA (h := ?_)
 refine nq ?_
 refine rtn ?_
 refine q_ret (hR := ?_)
 exact fun w hS => ⟨rfl, hS.sub slz_⟩

theorem C_IndexFuncS {A : Option Addr} {n c : Nat} {es : List (List Value)} {g : FuncId} (hg : FnOk Tryz.prog g) (fi cap : List Value) (Lp : List Ent) (p : Nat → Bool) (hn : n ≤ 9223372036854775807)
  (hp : ∀ k cs, es[k]? = some cs → Tr Tryz.prog g (fi ++ [.agg cs.toArray] ++ cap) (.ro A 4 n es :: Lp) (fun _ : Unit => True) (fun _ => .bool (p k)) (fun _ => .ro A 4 n es :: Lp)) :
  Tr Tryz.prog 186 [.slice A n c, .func (.func g) fi.toArray cap.toArray] (.ro A 4 n es :: Lp) (FstL p n) (fun j => .int .i64 j) (fun _ => .ro A 4 n es :: Lp) := by
 refine ⟨fun w0 w R hst => ?_⟩
 have hlen : es.length = n := (hst.ok (.ro A 4 n es) (by simp)).len
 refine en Tryz.func186 Tryz.ntmps186 hst (h := fun F => ?_)
 refine sr ?_
 refine ww ?_
 refine nq ?_
 refine sq ?_
 refine sr ?_
 iterate 3 refine ww ?_
 refine nq ?_
 refine bk ?_
 refine lp (X := Nat) (I := fun k => k ≤ n ∧ ∀ i, i < k → p i = false) (le := fun k => [(0, .slice A n c), (1, .func (.func g) fi.toArray cap.toArray), (7, .int .i64 n), (8, .int .i64 k)]) (Le := fun _ => .ro A 4 n es :: (Lp ++ R)) (μ := fun k => n - k) 0 ⟨by omega, fun i hi => by omega⟩ sbz_ (SubL.refl _) (fun k hk => ?_)
 obtain ⟨hk, hall⟩ := hk
 refine sr ?_
 refine ww ?_
 refine nq ?_
 refine sq ?_
 refine czz (fun h0 => ?_) fun h0 => ?_
 ·
  have hkn : k < n := by simp only [decide_eq_true_eq] at h0; omega
  have hes : es[k]? = some es[k] := List.getElem?_eq_getElem (by omega)
  refine skp ?_
  refine q_seq ?_
  refine sq ?_
  refine bk ?_
  refine sr ?_
  iterate 2 refine ww ?_
  refine nr ?_
  iterate 3 refine ww ?_
  refine wy ix ?_
  refine wy (ldEW (k := k) (cs := es[k]) (hk := hes)) ?_
  refine clfT hg (fi := fi) (cap := cap) (by exact rfl) (by repeat (first | exact Evs.nil | (apply Evs.cons; exact rfl))) (hp k _ hes) rfl (Spl.cons .here (Spl.app _ _)) (h := fun _ _ => ?_)
  refine nq ?_
  refine czz (fun h1 => ?_) fun h1 => ?_
  ·
   refine sr ?_
   iterate 2 refine ww ?_
   refine nq ?_
   refine rtn ?_
   refine q_blk_ret ?_
   iterate 2 refine q_then_ret ?_
   refine q_blk_ret ?_
   refine q_then_ret ?_
   refine q_ret (hR := ?_)
   exact fun w hS => ⟨_, .inl ⟨k, hkn, rfl, by assumption, hall⟩, rfl, hS⟩
  ·
   refine skp ?_
   refine q_blk_norm ?_
   refine q_seq ?_
   refine rg ?_
   iterate 2 refine ww ?_
   refine nl ?_
   refine rn (k + 1) ⟨by omega, fun i hi => ?_⟩ (by omega) sbz_ (SubL.refl _)
   rcases Nat.lt_succ_iff_lt_or_eq.1 hi with h | rfl
   ·
    exact hall i h
   ·
    assumption
 ·
  have hkn : k = n := by simp only [decide_eq_false_iff_not] at h0; omega
  refine et ?_
  iterate 2 refine q_then_exit ?_
  refine q_blk_hit ?_
  refine q_seq ?_
  refine sr ?_
  refine ww ?_
  refine nq ?_
  refine rtn ?_
  refine q_ret (hR := ?_)
  exact fun w hS => ⟨_, .inr ⟨rfl, by subst hkn; exact hall⟩, rfl, hS⟩

theorem C_ContainsFuncS {A : Option Addr} {n c : Nat} {es : List (List Value)} {g : FuncId} (hg : FnOk Tryz.prog g) (fi cap : List Value) (Lp : List Ent) (p : Nat → Bool) (hn : n ≤ 9223372036854775807)
  (hp : ∀ k cs, es[k]? = some cs → Tr Tryz.prog g (fi ++ [.agg cs.toArray] ++ cap) (.ro A 4 n es :: Lp) (fun _ : Unit => True) (fun _ => .bool (p k)) (fun _ => .ro A 4 n es :: Lp)) :
  Tr Tryz.prog 128 [.slice A n c, .func (.func g) fi.toArray cap.toArray] (.ro A 4 n es :: Lp) (fun _ : Unit => True) (fun _ => .bool ((List.range n).any p)) (fun _ => .ro A 4 n es :: Lp) := by
 refine ⟨fun w0 w R hst => ?_⟩
 refine en Tryz.func128 Tryz.ntmps128 hst (h := fun F => ?_)
 refine sr ?_
 refine ww ?_
 refine nr ?_
 iterate 2 refine ww ?_
 refine clT (hc := C_IndexFuncS hg fi cap Lp p hn hp) (hs := Spl.cons .here (Spl.app _ _)) (h := fun x0 hx0 => ?_)
 iterate 2 refine ww ?_
 refine nq ?_
 refine rtn ?_
 refine q_ret (hR := ?_)
 exact fun w hS => ⟨(), trivial, by simp only [resV, hx0.any], hS⟩

theorem C_lines_Check1 (s : Strip) (w : World) : C0 Tryz.prog 129 [.agg s.enc.toArray] w (.bool (!iStrip s)) := by
 refine ⟨en Tryz.func129 Tryz.ntmps129 (St.init w) (h := fun F => ?_)⟩
 refine sr ?_
 refine bxA (h := fun b0 => ?_)
 refine ww ?_
 refine nr ?_
 refine ww ?_
 refine cl0 (hc := fun w hS => C_lines_isStrip ..) (h := ?_)
 iterate 2 refine ww ?_
 refine nq ?_
 refine rtn ?_
 refine q_ret (hR := ?_)
 exact fun w hS => ⟨rfl, hS.sub slz_⟩

theorem Tr.of0 {P : Program} {f : FuncId} {vs : List Value} {Lp : List Ent} {v : Value} (h : ∀ w, C0 P f vs w v) : Tr P f vs Lp (fun _ : Unit => True) (fun _ => v) (fun _ => Lp) :=
 ⟨fun w0 w R hst => Calls.mono (h w).out fun e w' ⟨he, hs⟩ => ⟨(), trivial, he, by simpa using hst.join hs rfl⟩⟩

theorem C_lines_Check (v : View) (A : Option Addr) (n c : Nat) (w : World) (h : Rd w A 4 n v.enc) (hn : n ≤ 9223372036854775807) : C0 Tryz.prog 86 [v.val A n c] w (.int .i64 (chkV v)) := by
 have hlen : v.strips.length = n := by have := h.len; simpa using this
 have hany : (List.range n).any (pAtL v.strips fun s => !iStrip s) = v.strips.any (fun s => !iStrip s) := by rw [← hlen]; exact pAt_anyL ..
 refine ⟨en Tryz.func86 Tryz.ntmps86 ((St.init w).share (e := .ro A 4 n v.enc) h rfl rfl rfl) (h := fun F => ?_)⟩
 refine sr ?_
 refine bxA (h := fun b0 => ?_)
 refine ww ?_
 refine nr ?_
 iterate 2 refine ww ?_
 refine clT (hc := C_ContainsFuncS (g := 129) inferInstance [] [] [] (pAtL v.strips fun s => !iStrip s) hn (fun k cs hk => by
  obtain ⟨s, hs, rfl⟩ := enc_atL hk
  rw [pAt_eqL hs]
  exact Tr.of0 fun w => C_lines_Check1 s w)) (hs := by apply Spl.cons; (repeat (first | exact At.here | apply At.there)); exact Spl.nil) (h := fun _ _ => ?_)
 rw [hany]
 subst hlen
 refine ww ?_
 refine nq ?_
 refine sq ?_
 refine sr ?_
 iterate 2 refine ww ?_
 apply brOr 5 8 13 (by exact rfl)
 ·
  intro hb0
  iterate 4 refine uw ?_
  refine ww ?_
  exact mg (by repeat (first | exact trivial | refine ⟨rfl, ?_⟩ | refine ⟨by rw [hb0]; rfl, ?_⟩)) slz_
 ·
  intro hb0
  repeat (first | refine uz ?_ | refine kz ?_ | refine wz ?_)
  exact mg (by repeat (first | exact trivial | refine ⟨rfl, ?_⟩ | refine ⟨by rw [hb0]; rfl, ?_⟩)) slz_
 refine ww ?_
 apply brOr 5 14 19 (by exact rfl)
 ·
  intro hb1
  iterate 2 refine uw ?_
  refine uz ?_
  refine cl0 (hc := fun w hS => C_lines_within ..) (h := ?_)
  refine uw ?_
  refine ww ?_
  exact mg (by repeat (first | exact trivial | refine ⟨rfl, ?_⟩ | refine ⟨by rw [hb1]; rfl, ?_⟩)) slz_
 ·
  intro hb1
  repeat (first | refine uz ?_ | refine kz ?_ | refine wz ?_)
  exact mg (by repeat (first | exact trivial | refine ⟨rfl, ?_⟩ | refine ⟨by rw [hb1]; rfl, ?_⟩)) slz_
 refine ww ?_
 apply brOr 5 20 25 (by exact rfl)
 ·
  intro hb2
  iterate 2 refine uw ?_
  refine uz ?_
  refine cl0 (hc := fun w hS => C_lines_within ..) (h := ?_)
  refine uw ?_
  refine ww ?_
  exact mg (by repeat (first | exact trivial | refine ⟨rfl, ?_⟩ | refine ⟨by rw [hb2]; rfl, ?_⟩)) slz_
 ·
  intro hb2
  repeat (first | refine uz ?_ | refine kz ?_ | refine wz ?_)
  exact mg (by repeat (first | exact trivial | refine ⟨rfl, ?_⟩ | refine ⟨by rw [hb2]; rfl, ?_⟩)) slz_
 refine ww ?_
 apply brOr 5 26 31 (by exact rfl)
 ·
  intro hb3
  iterate 2 refine uw ?_
  refine uz ?_
  refine cl0 (hc := fun w hS => C_lines_isSpan ..) (h := ?_)
  refine uw ?_
  refine ww ?_
  exact mg (by repeat (first | exact trivial | refine ⟨rfl, ?_⟩ | refine ⟨by rw [hb3]; rfl, ?_⟩)) slz_
 ·
  intro hb3
  repeat (first | refine uz ?_ | refine kz ?_ | refine wz ?_)
  exact mg (by repeat (first | exact trivial | refine ⟨rfl, ?_⟩ | refine ⟨by rw [hb3]; rfl, ?_⟩)) slz_
 refine ww ?_
 apply brOr 5 32 37 (by exact rfl)
 ·
  intro hb4
  iterate 2 refine uw ?_
  refine uz ?_
  refine cl0 (hc := fun w hS => C_lines_isSpan ..) (h := ?_)
  refine uw ?_
  refine ww ?_
  exact mg (by repeat (first | exact trivial | refine ⟨rfl, ?_⟩ | refine ⟨by rw [hb4]; rfl, ?_⟩)) slz_
 ·
  intro hb4
  repeat (first | refine uz ?_ | refine kz ?_ | refine wz ?_)
  exact mg (by repeat (first | exact trivial | refine ⟨rfl, ?_⟩ | refine ⟨by rw [hb4]; rfl, ?_⟩)) slz_
 refine nq ?_
 refine czz (fun h5 => ?_) fun h5 => ?_
 ·
  refine sr ?_
  refine ww ?_
  refine nq ?_
  refine rtn ?_
  refine q_then_ret ?_
  refine q_ret (hR := ?_)
  exact fun w hS => ⟨cdT' (fun x : Int => Ending.returned (Value.int .i64 x)) h5, hS.sub slz_⟩
 ·
  refine skp ?_
  refine q_seq ?_
  refine sr ?_
  refine ww ?_
  refine nq ?_
  refine rtn ?_
  refine q_ret (hR := ?_)
  exact fun w hS => ⟨cdF' (fun x : Int => Ending.returned (Value.int .i64 x)) h5, hS.sub slz_⟩

theorem C_lines_wrong (v : View) (A : Option Addr) (n c : Nat) (x y : Int) (w : World) (h : Rd w A 4 n v.enc) (hv : v.Near) (hx : 0 ≤ x ∧ x ≤ 40) (hy : 0 ≤ y ∧ y ≤ 40) :
  CR Tryz.prog 188 [v.val A n c, .int .i64 x, .int .i64 y] w (fun _ : Option Addr × Nat => True) (fun p => .slice p.1 (wrongs v x y).length p.2) (fun p => [.own p.1 p.2 3 1 (wrongs v x y).length (encIL (wrongs v x y))]) := by
 have hlen : v.strips.length = n := by have := h.len; simpa using this
 have hn8 := hv.len
 refine ⟨en Tryz.func188 Tryz.ntmps188 ((St.init w).share (e := .ro A 4 n v.enc) h rfl rfl rfl) (h := fun F => ?_)⟩
 refine sr ?_
 refine bxA (h := fun b0 => ?_)
 refine ww ?_
 refine nr ?_
 refine ww ?_
 refine nq ?_
 iterate 2 refine sq ?_
 refine WC.nilOwn 3 1 (h := ?_)
 refine rg ?_
 iterate 4 refine ww ?_
 refine nq ?_
 refine bk ?_
 refine lp (X := LS) (I := fun z => z.k ≤ n ∧ z.es = encIL (wrongTo v.strips x y z.k) ∧ z.m = (wrongTo v.strips x y z.k).length) (le := fun z => [(1, .int .i64 x), (2, .int .i64 y), (3, .pointer (some ⟨b0, 0, none⟩)), (7, .slice z.A z.m z.c), (11, .slice A n c), (12, .int .i64 n), (13, .int .i64 z.k)]) (Le := fun z => [.own z.A z.c 3 1 z.m z.es, .ro A 4 n v.enc, .blk b0 59 (v.cells A n c)]) (μ := fun z => n - z.k) ⟨0, 0, [], none, 0⟩ ⟨by simp, rfl, rfl⟩ sbz_ slz_ (fun z hz => ?_)
 obtain ⟨hk, hes, hm⟩ := hz
 have hml := wrongTo_len v.strips x y z.k
 refine sr ?_
 refine ww ?_
 refine nq ?_
 refine sq ?_
 refine czz (fun h0 => ?_) fun h0 => ?_
 ·
  have hkn : z.k < n := by simp only [decide_eq_true_eq] at h0; omega
  obtain ⟨s, hs⟩ : ∃ s, v.strips[z.k]? = some s := ⟨_, List.getElem?_eq_getElem (by omega)⟩
  have hse : v.enc[z.k]? = some s.enc := by simp [View.enc, hs]
  have hsl := hv.slope s (List.mem_of_getElem? hs)
  have hsx := mul_abs hsl.1 hsl.2.1 hx
  have hsy := mul_abs hsl.2.2.1 hsl.2.2.2 hy
  refine skp ?_
  refine q_seq ?_
  refine sq ?_
  refine bk ?_
  refine sr ?_
  refine ww ?_
  refine wy (ix (hb := by omega)) ?_
  refine wy (ldEW (k := z.k) (cs := s.enc) (hk := hse)) ?_
  refine al (h := fun b1 => ?_)
  refine ww ?_
  first | refine stA (h := ?_) | refine stEA (h := ?_)
  refine nr ?_
  iterate 13 refine ww ?_
  refine cl0 (hc := fun w hS => C_lines_within ..) (h := ?_)
  refine ww ?_
  refine nq ?_
  refine czz (fun h1 => ?_) fun h1 => ?_
  ·
   have h1 : miss s x y = true := h1
   refine rg ?_
   iterate 2 refine ww ?_
   refine bs (h := fun b2 => ?_)
   first | refine ap (h := fun A1 c1 => ?_) | refine ap0 (h := fun A1 c1 => ?_)
   refine ww ?_
   refine nl ?_
   refine q_blk_norm ?_
   refine q_seq ?_
   refine rg ?_
   iterate 2 refine ww ?_
   refine nl ?_
   first
    | refine rn (x := z) ⟨z.k + 1, z.m + 1, z.es ++ [[.int .i64 z.k]], _, _⟩ ⟨by dsimp only; omega, by dsimp only; rw [wrongTo_succ hs, h1, hes, encI_app]; rfl, by dsimp only; rw [wrongTo_succ hs, h1, hm, cond_true, List.length_append]; rfl⟩ (by dsimp only; omega) sbz_ slz_
    | refine rn (x := z) ⟨z.k + 1, z.m, z.es, z.A, z.c⟩ ⟨by dsimp only; omega, by dsimp only; rw [wrongTo_succ hs, h1, hes]; rfl, by dsimp only; rw [wrongTo_succ hs, h1, hm]; rfl⟩ (by dsimp only; omega) sbz_ slz_
  ·
   have h1 : miss s x y = false := h1
   refine skp ?_
   refine q_blk_norm ?_
   refine q_seq ?_
   refine rg ?_
   iterate 2 refine ww ?_
   refine nl ?_
   first
    | refine rn (x := z) ⟨z.k + 1, z.m + 1, z.es ++ [[.int .i64 z.k]], _, _⟩ ⟨by dsimp only; omega, by dsimp only; rw [wrongTo_succ hs, h1, hes, encI_app]; rfl, by dsimp only; rw [wrongTo_succ hs, h1, hm, cond_true, List.length_append]; rfl⟩ (by dsimp only; omega) sbz_ slz_
    | refine rn (x := z) ⟨z.k + 1, z.m, z.es, z.A, z.c⟩ ⟨by dsimp only; omega, by dsimp only; rw [wrongTo_succ hs, h1, hes]; rfl, by dsimp only; rw [wrongTo_succ hs, h1, hm]; rfl⟩ (by dsimp only; omega) sbz_ slz_
 ·
  have hkn : z.k = n := by simp only [decide_eq_false_iff_not] at h0; omega
  refine et ?_
  iterate 2 refine q_then_exit ?_
  refine q_blk_hit ?_
  refine q_seq ?_
  refine sr ?_
  iterate 2 refine ww ?_
  refine nq ?_
  refine rtn ?_
  refine q_ret (hR := ?_)
  exact fun w hS => ⟨(z.A, z.c), trivial, by rw [hm, hkn, ← hlen]; rfl, by rw [hm, hkn, hes, hkn, ← hlen] at hS; exact hS.sub slz_⟩

theorem C_lines_all (v : View) (A : Option Addr) (n c : Nat) (w : World) : CR Tryz.prog 133 [v.val A n c] w (fun _ : Nat => True) (fun b => .func (.func 187) #[] #[.pointer (some ⟨b, 0, none⟩)]) (fun b => [.blk b 59 (v.cells A n c)]) := by
 refine ⟨en Tryz.func133 Tryz.ntmps133 (St.init w) (h := fun F => ?_)⟩
 refine sr ?_
 refine bxA (h := fun b0 => ?_)
 refine ww ?_
 refine nr ?_
 iterate 2 refine ww ?_
 refine nq ?_
 refine rtn ?_
 refine q_ret (hR := ?_)
 exact fun w hS => ⟨_, trivial, rfl, hS⟩
end Go.Proofs.YthkliiifllhacaaGreat

namespace Go.Proofs.YthkliiifllhacaaGreat
open Go Go.RowKit

theorem It_all1 (v : View) (A : Option Addr) (n c b : Nat) (hv : v.Near) : It Tryz.prog 187 (fun y => [] ++ [y] ++ [.pointer (some ⟨b, 0, none⟩)]) [.blk b 59 (v.cells A n c), .ro A 4 n v.enc] (v.m * v.m) (fun _ (_ : Option Addr × Nat) => True)
  (fun k p => [.agg #[.int .i64 (ctr v k).1, .int .i64 (ctr v k).2], .slice p.1 (wrongs v (ctr v k).1 (ctr v k).2).length p.2]) (fun k p => [.own p.1 p.2 3 1 (wrongs v (ctr v k).1 (ctr v k).2).length (encIL (wrongs v (ctr v k).1 (ctr v k).2))]) := by
 refine ⟨fun {Y} ψ J ψx Jx w0 w lb y0 h0 hst hround => ?_⟩
 have hmi := m_int hv
 have hml := m_le hv
 have hs0 := hv.s0
 refine enM (vs := [.func (.yield lb) #[] #[], .pointer (some ⟨b, 0, none⟩)]) Tryz.func187 Tryz.ntmps187 hst (h := ?_)
 refine sr ?_
 iterate 4 refine ww ?_
 refine nq ?_
 refine bk ?_
 refine lp (X := LY Y) (I := fun z => z.k ≤ v.m ∧ ψ (z.k * v.m) z.y) (le := fun z => [(0, .func (.yield lb) #[] #[]), (1, .pointer (some ⟨b, 0, none⟩)), (7, .int .i64 (v.size + 1)), (8, .int .i64 z.k)]) (Le := fun z => .blk b 59 (v.cells A n c) :: .ro A 4 n v.enc :: J (z.k * v.m) z.y) (μ := fun z => v.m - z.k) ⟨0, y0⟩ ⟨by dsimp only; omega, by simpa using h0⟩ sbz_ (by simp only [Nat.zero_mul]; exact SubL.refl _) (fun z hz => ?_)
 obtain ⟨hk, hy⟩ := hz
 refine sr ?_
 refine ww ?_
 refine nq ?_
 refine sq ?_
 refine czz (fun h0 => ?_) fun h0 => ?_
 ·
  have hkm : z.k < v.m := by simp only [decide_eq_true_eq] at h0; omega
  refine skp ?_
  refine q_seq ?_
  refine sq ?_
  refine bk ?_
  refine sr ?_
  iterate 2 refine ww ?_
  refine nr ?_
  iterate 4 refine ww ?_
  refine nq ?_
  refine bk ?_
  refine lp (X := LY Y) (I := fun u => u.k ≤ v.m ∧ ψ (z.k * v.m + u.k) u.y) (le := fun u => [(0, .func (.yield lb) #[] #[]), (1, .pointer (some ⟨b, 0, none⟩)), (7, .int .i64 (v.size + 1)), (8, .int .i64 z.k), (3, .int .i64 z.k), (13, .int .i64 (v.size + 1)), (14, .int .i64 u.k)]) (Le := fun u => .blk b 59 (v.cells A n c) :: .ro A 4 n v.enc :: J (z.k * v.m + u.k) u.y) (μ := fun u => v.m - u.k) ⟨0, z.y⟩ ⟨by dsimp only; omega, hy⟩ sbz_ (SubL.refl _) (fun u hu => ?_)
  obtain ⟨huk, hu⟩ := hu
  refine sr ?_
  refine ww ?_
  refine nq ?_
  refine sq ?_
  refine czz (fun h1 => ?_) fun h1 => ?_
  ·
   have hjl : u.k < v.m := by simp only [decide_eq_true_eq] at h1; omega
   refine skp ?_
   refine q_seq ?_
   refine sq ?_
   refine bk ?_
   refine sr ?_
   iterate 2 refine ww ?_
   refine nr ?_
   iterate 7 refine ww ?_
   refine cl (hc := fun w hS => C_lines_wrong _ _ _ _ _ _ w (hS.get rdz_) ‹_› (by omega) (by omega)) (h := fun x0 _ => ?_)
   refine yl (lb := lb) (Z := Bool × Y) (Φ := fun r => cond r.1 (ψ (z.k * v.m + u.k + 1) r.2) (ψx r.2)) (val := fun r => .bool r.1) (post := fun r => cond r.1 (.blk b 59 (v.cells A n c) :: .ro A 4 n v.enc :: J (z.k * v.m + u.k + 1) r.2) (.blk b 59 (v.cells A n c) :: .ro A 4 n v.enc :: Jx r.2)) (by exact rfl) (by repeat (first | exact Evs.nil | (apply Evs.cons; exact rfl))) rfl (fun w hS => ?_) (fun r hr => ?_)
   ·
    have hround := hround (z.k * v.m + u.k) x0 u.y w (ctr_in hkm hjl) trivial hu
    simp only [ctr_eq hjl] at hround
    obtain ⟨fn, tmps, asg, bo, hy, hR⟩ := hround hS
    refine ⟨fn, tmps, asg, bo, hy, hR.mono fun e w' he => ?_⟩
    rcases he with ⟨rfl, y, hy, hs⟩ | ⟨rfl, y, hy, hs⟩
    ·
     exact ⟨(true, y), hy, rfl, hs⟩
    ·
     exact ⟨(false, y), hy, rfl, hs⟩
   refine ww ?_
   refine nq ?_
   refine czz (fun h2 => ?_) fun h2 => ?_
   ·
    obtain ⟨rb, ry⟩ := r
    obtain rfl : rb = false := by simpa using h2
    refine rtn ?_
    refine q_blk_ret ?_
    iterate 2 refine q_then_ret ?_
    iterate 2 refine q_blk_ret ?_
    iterate 2 refine q_then_ret ?_
    refine q_blk_ret ?_
    refine q_retM0 (hR := ?_)
    exact fun w hS => ⟨_, rfl, .inr ⟨ry, hr, hS⟩⟩
   ·
    obtain ⟨rb, ry⟩ := r
    obtain rfl : rb = true := by simpa using h2
    refine skp ?_
    refine q_blk_norm ?_
    refine q_seq ?_
    refine rg ?_
    iterate 2 refine ww ?_
    refine nl ?_
    refine rn (x := u) ⟨u.k + 1, ry⟩ ⟨by dsimp only; omega, hr⟩ (by dsimp only; omega) sbz_ (SubL.refl _)
  ·
   have hjm : u.k = v.m := by simp only [decide_eq_false_iff_not] at h1; omega
   refine et ?_
   iterate 2 refine q_then_exit ?_
   refine q_blk_hit ?_
   refine q_blk_norm ?_
   refine q_seq ?_
   refine rg ?_
   iterate 2 refine ww ?_
   refine nl ?_
   refine rn (x := z) ⟨z.k + 1, u.y⟩ ⟨by dsimp only; omega, by dsimp only; rw [Nat.succ_mul]; exact hjm ▸ hu⟩ (by dsimp only; omega) sbz_ (by dsimp only; rw [Nat.succ_mul, ← hjm]; exact SubL.refl _)
 ·
  have hkm : z.k = v.m := by simp only [decide_eq_false_iff_not] at h0; omega
  refine et ?_
  iterate 2 refine q_then_exit ?_
  refine q_blk_hit ?_
  refine q_endM0 (hR := ?_)
  exact fun w hS => ⟨_, rfl, .inl ⟨z.y, by rw [hkm] at hy; exact hy, by rw [hkm] at hS; exact hS⟩⟩
theorem C_lines_truths (v : View) (A : Option Addr) (n c : Nat) (w : World) (h : Rd w A 4 n v.enc) (hv : v.Near) :
  CR Tryz.prog 88 [v.val A n c] w (fun _ : Option Addr × Nat => True) (fun p => .slice p.1 (trus v).length p.2) (fun p => [.own p.1 p.2 183 2 (trus v).length (encPL (trus v))]) := by
 have hmm := mm_le hv
 refine ⟨enM Tryz.func88 Tryz.ntmps88 ((St.init w).share (e := .ro A 4 n v.enc) h rfl rfl rfl) (h := ?_)⟩
 refine sr ?_
 refine bxA (h := fun b0 => ?_)
 refine ww ?_
 refine nr ?_
 refine al (h := fun b1 => ?_)
 refine WL.nilOwn 183 2 (h := ?_)
 refine nq ?_
 refine sq ?_
 refine sr ?_
 refine ww ?_
 refine cl (hc := fun w hS => C_lines_all _ _ _ _ w) (h := fun x0 _ => ?_)
 refine nq ?_
 refine bk ?_
 refine rf (f := 187) inferInstance (fun k (z : LS) => z.es = encPL (truTo v k) ∧ z.m = (truTo v k).length) (fun k z => [.blk b1 179 [.slice z.A z.m z.c], .own z.A z.c 183 2 z.m z.es, .blk b0 59 (v.cells A n c)]) (fun _ => False) (fun _ => .skip) (fun _ => []) ⟨0, 0, [], none, 0⟩ (It_all1 v A n c x0 hv) (by exact rfl) (fun _ _ => rfl) (by rfl) ⟨rfl, rfl⟩ slz_ (fun fn tmps lb rb k p z hk hφ hz => ?_) (fun rb z hz => ?_) (fun _ _ h => h.elim)
 ·
  obtain ⟨hes, hm⟩ := hz
  have hml := truTo_len v k
  refine sr ?_
  refine al (h := fun b2 => ?_)
  first | refine stA (h := ?_) | refine stEA (h := ?_)
  refine nq ?_
  refine rg ?_
  refine ww ?_
  refine nl ?_
  refine bgn (h := ?_)
  refine bk ?_
  refine sr ?_
  iterate 5 refine ww ?_
  refine nq ?_
  refine czz (fun h0 => ?_) fun h0 => ?_
  ·
   have h0' : tru v (ctr v k) = true := h0
   refine rg ?_
   iterate 2 refine ww ?_
   refine bs (h := fun b3 => ?_)
   first | refine ap (h := fun A1 c1 => ?_) | refine ap0 (h := fun A1 c1 => ?_)
   first | refine st (h := ?_) | refine stE (h := ?_)
   refine nl ?_
   refine q_blk_norm ?_
   first
    | refine rdN (y := ⟨0, z.m + 1, z.es ++ [[.int .i64 (ctr v k).1, .int .i64 (ctr v k).2]], _, _⟩) ⟨by dsimp only; rw [truTo, h0', hes, encP_appL]; rfl, by dsimp only; rw [truTo, h0', hm, cond_true, List.length_append]; rfl⟩ (hs := slz_)
    | refine rdN (y := z) ⟨by rw [truTo, h0', hes]; rfl, by rw [truTo, h0', hm]; rfl⟩ (hs := slz_)
  ·
   have h0' : tru v (ctr v k) = false := h0
   refine skp ?_
   refine q_blk_norm ?_
   first
    | refine rdN (y := ⟨0, z.m + 1, z.es ++ [[.int .i64 (ctr v k).1, .int .i64 (ctr v k).2]], _, _⟩) ⟨by dsimp only; rw [truTo, h0', hes, encP_appL]; rfl, by dsimp only; rw [truTo, h0', hm, cond_true, List.length_append]; rfl⟩ (hs := slz_)
    | refine rdN (y := z) ⟨by rw [truTo, h0', hes]; rfl, by rw [truTo, h0', hm]; rfl⟩ (hs := slz_)
 obtain ⟨hes, hm⟩ := hz
 refine q_blk_norm ?_
 refine q_seq ?_
 refine sr ?_
 iterate 2 refine ww ?_
 refine nq ?_
 refine rtn ?_
 refine q_retM (hR := ?_)
 exact fun w hS => ⟨(z.A, z.c), trivial, by rw [hm]; rfl, by rw [hm, hes] at hS; exact hS.sub slz_⟩
theorem C_IndexFuncPL {A : Option Addr} {n c : Nat} {es : List (List Value)} {g : FuncId} (hg : FnOk Tryz.prog g) (fi cap : List Value) (Lp : List Ent) (p : Nat → Bool) (hn : n ≤ 9223372036854775807)
  (hp : ∀ k cs, es[k]? = some cs → Tr Tryz.prog g (fi ++ [.agg cs.toArray] ++ cap) (.ro A 2 n es :: Lp) (fun _ : Unit => True) (fun _ => .bool (p k)) (fun _ => .ro A 2 n es :: Lp)) :
  Tr Tryz.prog 134 [.slice A n c, .func (.func g) fi.toArray cap.toArray] (.ro A 2 n es :: Lp) (FstL p n) (fun j => .int .i64 j) (fun _ => .ro A 2 n es :: Lp) := by
 refine ⟨fun w0 w R hst => ?_⟩
 have hlen : es.length = n := (hst.ok (.ro A 2 n es) (by simp)).len
 refine en Tryz.func134 Tryz.ntmps134 hst (h := fun F => ?_)
 refine sr ?_
 refine ww ?_
 refine nq ?_
 refine sq ?_
 refine sr ?_
 iterate 3 refine ww ?_
 refine nq ?_
 refine bk ?_
 refine lp (X := Nat) (I := fun k => k ≤ n ∧ ∀ i, i < k → p i = false) (le := fun k => [(0, .slice A n c), (1, .func (.func g) fi.toArray cap.toArray), (7, .int .i64 n), (8, .int .i64 k)]) (Le := fun _ => .ro A 2 n es :: (Lp ++ R)) (μ := fun k => n - k) 0 ⟨by omega, fun i hi => by omega⟩ sbz_ (SubL.refl _) (fun k hk => ?_)
 obtain ⟨hk, hall⟩ := hk
 refine sr ?_
 refine ww ?_
 refine nq ?_
 refine sq ?_
 refine czz (fun h0 => ?_) fun h0 => ?_
 ·
  have hkn : k < n := by simp only [decide_eq_true_eq] at h0; omega
  have hes : es[k]? = some es[k] := List.getElem?_eq_getElem (by omega)
  refine skp ?_
  refine q_seq ?_
  refine sq ?_
  refine bk ?_
  refine sr ?_
  iterate 2 refine ww ?_
  refine nr ?_
  iterate 3 refine ww ?_
  refine wy ix ?_
  refine wy (ldEW (k := k) (cs := es[k]) (hk := hes)) ?_
  refine clfT hg (fi := fi) (cap := cap) (by exact rfl) (by repeat (first | exact Evs.nil | (apply Evs.cons; exact rfl))) (hp k _ hes) rfl (Spl.cons .here (Spl.app _ _)) (h := fun _ _ => ?_)
  refine nq ?_
  refine czz (fun h1 => ?_) fun h1 => ?_
  ·
   refine sr ?_
   iterate 2 refine ww ?_
   refine nq ?_
   refine rtn ?_
   refine q_blk_ret ?_
   iterate 2 refine q_then_ret ?_
   refine q_blk_ret ?_
   refine q_then_ret ?_
   refine q_ret (hR := ?_)
   exact fun w hS => ⟨_, .inl ⟨k, hkn, rfl, by assumption, hall⟩, rfl, hS⟩
  ·
   refine skp ?_
   refine q_blk_norm ?_
   refine q_seq ?_
   refine rg ?_
   iterate 2 refine ww ?_
   refine nl ?_
   refine rn (k + 1) ⟨by omega, fun i hi => ?_⟩ (by omega) sbz_ (SubL.refl _)
   rcases Nat.lt_succ_iff_lt_or_eq.1 hi with h | rfl
   ·
    exact hall i h
   ·
    assumption
 ·
  have hkn : k = n := by simp only [decide_eq_false_iff_not] at h0; omega
  refine et ?_
  iterate 2 refine q_then_exit ?_
  refine q_blk_hit ?_
  refine q_seq ?_
  refine sr ?_
  refine ww ?_
  refine nq ?_
  refine rtn ?_
  refine q_ret (hR := ?_)
  exact fun w hS => ⟨_, .inr ⟨rfl, by subst hkn; exact hall⟩, rfl, hS⟩

theorem C_ContainsFuncPL {A : Option Addr} {n c : Nat} {es : List (List Value)} {g : FuncId} (hg : FnOk Tryz.prog g) (fi cap : List Value) (Lp : List Ent) (p : Nat → Bool) (hn : n ≤ 9223372036854775807)
  (hp : ∀ k cs, es[k]? = some cs → Tr Tryz.prog g (fi ++ [.agg cs.toArray] ++ cap) (.ro A 2 n es :: Lp) (fun _ : Unit => True) (fun _ => .bool (p k)) (fun _ => .ro A 2 n es :: Lp)) :
  Tr Tryz.prog 89 [.slice A n c, .func (.func g) fi.toArray cap.toArray] (.ro A 2 n es :: Lp) (fun _ : Unit => True) (fun _ => .bool ((List.range n).any p)) (fun _ => .ro A 2 n es :: Lp) := by
 refine ⟨fun w0 w R hst => ?_⟩
 refine en Tryz.func89 Tryz.ntmps89 hst (h := fun F => ?_)
 refine sr ?_
 refine ww ?_
 refine nr ?_
 iterate 2 refine ww ?_
 refine clT (hc := C_IndexFuncPL hg fi cap Lp p hn hp) (hs := Spl.cons .here (Spl.app _ _)) (h := fun x0 hx0 => ?_)
 iterate 2 refine ww ?_
 refine nq ?_
 refine rtn ?_
 refine q_ret (hR := ?_)
 exact fun w hS => ⟨(), trivial, by simp only [resV, hx0.any], hS⟩


theorem C_lines_check (v : View) (b : Box) (A : Option Addr) (n c : Nat) (w : World) (h : Rd w A 4 n v.enc) (hn : n ≤ 9223372036854775807) : C0 Tryz.prog 49 [v.val A n c, b.val] w (.int .i64 (chkVB v b)) := by
 refine ⟨en Tryz.func49 Tryz.ntmps49 ((St.init w).share (e := .ro A 4 n v.enc) h rfl rfl rfl) (h := fun F => ?_)⟩
 refine sr ?_
 refine bxA (h := fun b0 => ?_)
 refine bxA (h := fun b1 => ?_)
 refine ww ?_
 refine nq ?_
 refine sq ?_
 refine sr ?_
 refine ww ?_
 refine cl0 (hc := fun w hS => C_lines_Check _ _ _ _ w (hS.get rdz_) (by omega)) (h := ?_)
 refine ww ?_
 refine nr ?_
 iterate 2 refine ww ?_
 refine nq ?_
 refine czz (fun h0 => ?_) fun h0 => ?_
 ·
  refine sr ?_
  iterate 2 refine ww ?_
  refine nq ?_
  refine rtn ?_
  refine q_then_ret ?_
  refine q_ret (hR := ?_)
  exact fun w hS => ⟨cdT' (fun x : Int => Ending.returned (Value.int .i64 x)) h0, hS.sub slz_⟩
 ·
  refine skp ?_
  refine q_seq ?_
  refine sr ?_
  refine ww ?_
  refine cl0 (hc := fun w hS => C_lines_checkBox ..) (h := ?_)
  refine ww ?_
  refine nq ?_
  refine rtn ?_
  refine q_ret (hR := ?_)
  exact fun w hS => ⟨cdF' (fun x : Int => Ending.returned (Value.int .i64 x)) h0, hS.sub slz_⟩

theorem T_lines_call1 (v : View) (b : Box) (A : Option Addr) (n c a0 a1 : Nat) (Le : Ent) (hv : v.Near) (hb : b.Ok) (p : Int × Int) (hp : p ∈ trus v) :
  Tr Tryz.prog 90 [.agg #[.int .i64 p.1, .int .i64 p.2], .pointer (some ⟨a0, 0, none⟩), .pointer (some ⟨a1, 0, none⟩)] [Le, .blk a0 59 (v.cells A n c), .blk a1 61 [.int .i64 b.l, .int .i64 b.r, .int .i64 b.b, .int .i64 b.t]] (fun _ : Unit => True) (fun _ => .bool (!tch (smallM v p) b)) (fun _ => [Le, .blk a0 59 (v.cells A n c), .blk a1 61 [.int .i64 b.l, .int .i64 b.r, .int .i64 b.b, .int .i64 b.t]]) := by
 have hmk := small_ok hv hp
 refine ⟨fun w0 w R hst => ?_⟩
 refine en Tryz.func90 Tryz.ntmps90 hst (h := fun F => ?_)
 refine sr ?_
 refine bxA (h := fun b0 => ?_)
 refine ww ?_
 refine nq ?_
 refine sq ?_
 refine rgD (by kernel_rfl) [(1000000, .blk b0 183 [.int .i64 p.1, .int .i64 p.2]), (1000000, .blk a0 59 (v.cells A n c)), (1000000, .blk a1 61 [.int .i64 b.l, .int .i64 b.r, .int .i64 b.b, .int .i64 b.t])] (by repeat (first | exact HS.nil | (apply HS.keep; (repeat (first | exact At.here | apply At.there))) | (apply HS.ro; (repeat (first | exact Rds.ro | exact Rds.own | apply Rds.there))))) (h := ?_)
 refine tw 0 ?_
 refine tw 1 ?_
 refine tw 3 ?_
 refine one 2 (h := ?_)
 refine cl0 (hc := fun w hS => C_lines_small ..) (h := ?_)
 refine nx (h := ?_)
 refine one 4 (h := ?_)
 refine cl0 (hc := fun w hS => C_lines_touches (smallM v p) b hmk hb w) (h := ?_)
 refine nx (h := ?_)
 refine tw 5 ?_
 refine tw 6 ?_
 refine dn (h := ?_)
 refine q_seq ?_
 refine rtn ?_
 refine q_ret (hR := ?_)
 exact fun w hS => ⟨(), trivial, rfl, hS.tail⟩
theorem T_lines_call2 (v : View) (b : Box) (A : Option Addr) (n c a0 a1 : Nat) (Le : Ent) (hv : v.Near) (hb : b.Ok) (p : Int × Int) (hp : p ∈ trus v) :
  Tr Tryz.prog 93 [.agg #[.int .i64 p.1, .int .i64 p.2], .pointer (some ⟨a0, 0, none⟩), .pointer (some ⟨a1, 0, none⟩)] [Le, .blk a0 59 (v.cells A n c), .blk a1 61 [.int .i64 b.l, .int .i64 b.r, .int .i64 b.b, .int .i64 b.t]] (fun _ : Unit => True) (fun _ => .bool (tch (largeM v p) b)) (fun _ => [Le, .blk a0 59 (v.cells A n c), .blk a1 61 [.int .i64 b.l, .int .i64 b.r, .int .i64 b.b, .int .i64 b.t]]) := by
 have hmk := large_ok hv hp
 refine ⟨fun w0 w R hst => ?_⟩
 refine en Tryz.func93 Tryz.ntmps93 hst (h := fun F => ?_)
 refine sr ?_
 refine bxA (h := fun b0 => ?_)
 refine ww ?_
 refine nq ?_
 refine sq ?_
 refine rgD (by kernel_rfl) [(1000000, .blk b0 183 [.int .i64 p.1, .int .i64 p.2]), (1000000, .blk a0 59 (v.cells A n c)), (1000000, .blk a1 61 [.int .i64 b.l, .int .i64 b.r, .int .i64 b.b, .int .i64 b.t])] (by repeat (first | exact HS.nil | (apply HS.keep; (repeat (first | exact At.here | apply At.there))) | (apply HS.ro; (repeat (first | exact Rds.ro | exact Rds.own | apply Rds.there))))) (h := ?_)
 refine tw 0 ?_
 refine tw 1 ?_
 refine tw 3 ?_
 refine one 2 (h := ?_)
 refine cl0 (hc := fun w hS => C_lines_large ..) (h := ?_)
 refine nx (h := ?_)
 refine one 4 (h := ?_)
 refine cl0 (hc := fun w hS => C_lines_touches (largeM v p) b hmk hb w) (h := ?_)
 refine nx (h := ?_)
 refine tw 5 ?_
 refine dn (h := ?_)
 refine q_seq ?_
 refine rtn ?_
 refine q_ret (hR := ?_)
 exact fun w hS => ⟨(), trivial, rfl, hS.tail⟩
end Go.Proofs.YthkliiifllhacaaGreat

namespace Go.Proofs.YthkliiifllhacaaGreat
open Go Go.RowKit

theorem C_lines_call (v : View) (b : Box) (A : Option Addr) (n c : Nat) (w : World) (h : Rd w A 4 n v.enc) (hv : v.Near) (hb : b.Ok) : C0 Tryz.prog 50 [v.val A n c, b.val] w (.int .i64 (callV v b)) := by
 have hmm := mm_le hv
 have htl : (trus v).length ≤ v.m * v.m := truTo_len ..
 refine ⟨en Tryz.func50 Tryz.ntmps50 ((St.init w).share (e := .ro A 4 n v.enc) h rfl rfl rfl) (h := fun F => ?_)⟩
 refine sr ?_
 refine bxA (h := fun b0 => ?_)
 refine bxA (h := fun b1 => ?_)
 refine ww ?_
 refine nr ?_
 refine ww ?_
 refine cl (hc := fun w hS => C_lines_truths _ _ _ _ w (hS.get rdz_) ‹_›) (h := fun x0 _ => ?_)
 refine ww ?_
 refine WL.toRo atz_ (h := ?_)
 refine nq ?_
 refine sq ?_
 refine bk ?_
 refine sr ?_
 iterate 4 refine ww ?_
 refine nq ?_
 refine czz (fun h0 => ?_) fun h0 => ?_
 ·
  refine sr ?_
  refine ww ?_
  refine nq ?_
  refine rtn ?_
  refine q_blk_ret ?_
  refine q_then_ret ?_
  refine q_ret (hR := ?_)
  exact fun w hS => ⟨cdT' (fun x : Int => Ending.returned (Value.int .i64 x)) h0, hS.sub slz_⟩
 ·
  refine sr ?_
  iterate 2 refine ww ?_
  refine clT (hc := C_ContainsFuncPL (A := x0.1) (n := (trus v).length) (c := x0.2) (es := encPL (trus v)) (g := 90) inferInstance [] [.pointer (some ⟨b0, 0, none⟩), .pointer (some ⟨b1, 0, none⟩)] [.blk b0 59 (v.cells A n c), .blk b1 61 [.int .i64 b.l, .int .i64 b.r, .int .i64 b.b, .int .i64 b.t]] (pAtL (trus v) fun p => !tch (smallM v p) b) (by omega) (fun k cs hk => by
   obtain ⟨p, hp, rfl⟩ := enc_atL hk
   rw [pAt_eqL hp]
   exact T_lines_call1 v b A n c b0 b1 _ hv hb p (List.mem_of_getElem? hp))) (hs := by repeat (first | exact Spl.nil | (apply Spl.cons; (repeat (first | exact At.here | apply At.there))))) (h := fun _ _ => ?_)
  rw [pAt_anyL]
  iterate 2 refine ww ?_
  refine nq ?_
  refine czz (fun h1 => ?_) fun h1 => ?_
  ·
   refine sr ?_
   refine ww ?_
   refine nq ?_
   refine rtn ?_
   refine q_blk_ret ?_
   refine q_then_ret ?_
   refine q_ret (hR := ?_)
   exact fun w hS => ⟨(cdT' (fun x : Int => Ending.returned (Value.int .i64 x)) h1).trans (cdF' (fun x : Int => Ending.returned (Value.int .i64 x)) h0), hS.sub slz_⟩
  ·
   refine sr ?_
   iterate 2 refine ww ?_
   refine clT (hc := C_ContainsFuncPL (A := x0.1) (n := (trus v).length) (c := x0.2) (es := encPL (trus v)) (g := 93) inferInstance [] [.pointer (some ⟨b0, 0, none⟩), .pointer (some ⟨b1, 0, none⟩)] [.blk b0 59 (v.cells A n c), .blk b1 61 [.int .i64 b.l, .int .i64 b.r, .int .i64 b.b, .int .i64 b.t]] (pAtL (trus v) fun p => tch (largeM v p) b) (by omega) (fun k cs hk => by
    obtain ⟨p, hp, rfl⟩ := enc_atL hk
    rw [pAt_eqL hp]
    exact T_lines_call2 v b A n c b0 b1 _ hv hb p (List.mem_of_getElem? hp))) (hs := by repeat (first | exact Spl.nil | (apply Spl.cons; (repeat (first | exact At.here | apply At.there))))) (h := fun _ _ => ?_)
   rw [pAt_anyL]
   iterate 2 refine ww ?_
   refine nq ?_
   refine czz (fun h2 => ?_) fun h2 => ?_
   ·
    refine sr ?_
    refine ww ?_
    refine nq ?_
    refine rtn ?_
    refine q_blk_ret ?_
    refine q_then_ret ?_
    refine q_ret (hR := ?_)
    exact fun w hS => ⟨((cdT' (fun x : Int => Ending.returned (Value.int .i64 x)) h2).trans (cdF' (fun x : Int => Ending.returned (Value.int .i64 x)) h1)).trans (cdF' (fun x : Int => Ending.returned (Value.int .i64 x)) h0), hS.sub slz_⟩
   ·
    refine skp ?_
    refine q_blk_norm ?_
    refine q_seq ?_
    refine sr ?_
    refine ww ?_
    refine nq ?_
    refine rtn ?_
    refine q_ret (hR := ?_)
    exact fun w hS => ⟨((cdF' (fun x : Int => Ending.returned (Value.int .i64 x)) h2).trans (cdF' (fun x : Int => Ending.returned (Value.int .i64 x)) h1)).trans (cdF' (fun x : Int => Ending.returned (Value.int .i64 x)) h0), hS.sub slz_⟩

theorem C_lines_Call (v : View) (b : Box) (A : Option Addr) (n c : Nat) (w : World) (h : Rd w A 4 n v.enc) (hn : n ≤ 9223372036854775807) : C0 Tryz.prog 21 [v.val A n c, b.val] w (.tuple (callR v b).toArray) := by
 refine ⟨en Tryz.func21 Tryz.ntmps21 ((St.init w).share (e := .ro A 4 n v.enc) h rfl rfl rfl) (h := fun F => ?_)⟩
 refine sr ?_
 refine bxA (h := fun b0 => ?_)
 refine bxA (h := fun b1 => ?_)
 iterate 2 refine ww ?_
 refine nq ?_
 refine sq ?_
 refine sr ?_
 iterate 2 refine ww ?_
 refine cl0 (hc := fun w hS => C_lines_check _ _ _ _ _ w (hS.get rdz_) (by omega)) (h := ?_)
 refine ww ?_
 refine nr ?_
 iterate 2 refine ww ?_
 refine nq ?_
 refine czz (fun h0 => ?_) fun h0 => ?_
 ·
  refine sr ?_
  iterate 3 refine ww ?_
  refine nq ?_
  refine rtn ?_
  refine q_then_ret ?_
  refine q_ret (hR := ?_)
  exact fun w hS => ⟨cdT' (fun x : List Value => Ending.returned (Value.tuple x.toArray)) h0, hS.sub slz_⟩
 ·
  refine skp ?_
  refine q_seq ?_
  refine sr ?_
  iterate 2 refine ww ?_
  refine cl0 (hc := fun w hS => C_lines_call _ _ _ _ _ w (hS.get rdz_) (vbad_near (chkVB_ok ‹_›).1) (bbad_ok (chkVB_ok ‹_›).2)) (h := ?_)
  refine ww ?_
  refine nq ?_
  refine sq ?_
  refine sr ?_
  iterate 2 refine ww ?_
  refine nq ?_
  refine czz (fun h1 => ?_) fun h1 => ?_
  ·
   refine sr ?_
   iterate 2 refine ww ?_
   refine nq ?_
   refine rtn ?_
   refine q_then_ret ?_
   refine q_ret (hR := ?_)
   exact fun w hS => ⟨(cdT' (fun x : List Value => Ending.returned (Value.tuple x.toArray)) h1).trans (cdF' (fun x : List Value => Ending.returned (Value.tuple x.toArray)) h0), hS.sub slz_⟩
  ·
   refine skp ?_
   refine q_seq ?_
   refine sr ?_
   iterate 3 refine ww ?_
   refine nq ?_
   refine rtn ?_
   refine q_ret (hR := ?_)
   exact fun w hS => ⟨(cdF' (fun x : List Value => Ending.returned (Value.tuple x.toArray)) h1).trans (cdF' (fun x : List Value => Ending.returned (Value.tuple x.toArray)) h0), hS.sub slz_⟩

end Go.Proofs.YthkliiifllhacaaGreat

namespace Go.Proofs.YthkliiifllhacaaGreat
open Go Go.RowKit

def exV : View := ⟨10, [⟨1, 0, 4, 5⟩, ⟨0, 1, 6, 6⟩, ⟨1, 1, 9, 12⟩], 0, 2, 2, 1, 2⟩
def exB : Box := ⟨0, 3, 0, 10⟩
theorem ex_call : callR exV exB = [.int .i64 1, .int .i64 0] := by kernel_rfl
theorem C_deucelaw02_Example (w : World) : CR Tryz.prog 31 [] w (fun _ : Nat => True) (fun b => .tuple #[exV.val (some ⟨b, 0, none⟩) 3 3, exB.val]) (fun b => [.own (some ⟨b, 0, none⟩) 3 119 4 3 exV.enc]) := by
 refine ⟨en Tryz.func31 Tryz.ntmps31 (St.init w) (h := fun F => ?_)⟩
 refine sr ?_
 refine al (h := fun b0 => ?_)
 refine al (h := fun b1 => ?_)
 refine nr ?_
 iterate 3 refine ww ?_
 refine bs (h := fun b2 => ?_)
 iterate 4 refine ww ?_
 first | refine stA (h := ?_) | refine stEA (h := ?_)
 first | refine stA (h := ?_) | refine stEA (h := ?_)
 refine nq ?_
 refine rtn ?_
 refine q_ret (hR := ?_)
 exact fun w hS => ⟨_, trivial, rfl, hS.sub slz_⟩

end Go.Proofs.YthkliiifllhacaaGreat

namespace Go.Proofs.YthkliiifllhacaaGreat
open Go Go.RowKit

set_option maxRecDepth 100000 in
set_option maxHeartbeats 4000000 in
theorem C_top_seeded (w : World) : C0 Tryz.prog 8 [] w (.bool true) := by
 have hlg := lg_ok exL_ok
 refine ⟨en Tryz.func8 Tryz.ntmps8 (St.init w) (h := fun F => ?_)⟩
 refine sr ?_
 refine ww ?_
 refine nr ?_
 refine cl (hc := fun w hS => C_law4_Example w) (h := fun x0 _ => ?_)
 refine cl (hc := fun w hS => C_rank_List exL ⟨x0.A1, x0.A2, x0.A3, 6, 1, 1⟩ 40 hlg.1 hlg.2 (by decide) (by decide) (by decide) w ⟨hS.get rdz_, hS.get rdz_, hS.get rdz_, (show (6 : Nat) ≤ 6 ∧ (6 : Nat) ≤ 9223372036854775807 by decide), (show (1 : Nat) ≤ 1 ∧ (1 : Nat) ≤ 9223372036854775807 by decide), (show (1 : Nat) ≤ 1 ∧ (1 : Nat) ≤ 9223372036854775807 by decide)⟩) (h := fun x1 _ => ?_)
 rw [exL_list]
 iterate 5 refine ww ?_
 refine nr ?_
 refine cl (hc := fun w hS => C_law06_Example w) (h := fun x2 _ => ?_)
 iterate 3 refine ww ?_
 refine al (h := fun b0 => ?_)
 refine al (h := fun b1 => ?_)
 first | refine stA (h := ?_) | refine stEA (h := ?_)
 first | refine stA (h := ?_) | refine stEA (h := ?_)
 refine nr ?_
 refine ww ?_
 refine cl (hc := fun w hS => C_dr_Draw exPD ⟨x2.A1, x2.A2, 3, 2⟩ (by decide) w ⟨hS.get (by repeat (first | exact Rds.own | apply Rds.there)), hS.get (by repeat (first | exact Rds.own | apply Rds.there)), by decide, by decide, Nat.le_refl _⟩) (h := fun x3 _ => ?_)
 rw [ex_draw]
 iterate 5 refine ww ?_
 refine nr ?_
 refine cl (hc := fun w hS => C_deucelaw02_Example w) (h := fun x4 _ => ?_)
 iterate 2 refine ww ?_
 refine cl0 (hc := fun w hS => C_lines_Call exV exB (some ⟨x4, 0, none⟩) 3 3 w (hS.get rdz_) (by omega)) (h := ?_)
 rw [ex_call]
 iterate 5 refine ww ?_
 refine nr ?_
 refine cl (hc := fun w hS => C_law3_Example w) (h := fun x5 _ => ?_)
 refine cl0 (hc := fun w hS => C_card_First exF 0 exX (some ⟨x5, 0, none⟩) 5 5 w (hS.get rdz_) (by omega) (fun _ => by rw [ex_most]; decide)) (h := ?_)
 rw [ex_all, ex_chk]
 iterate 5 refine ww ?_
 refine nr ?_
 refine ww ?_
 refine wy ((Yd.tr (eql) (by exact decide_eq_true rfl))) ?_
 refine ww ?_
 refine uw ?_
 refine uz ?_
 refine wy ((Yd.tr (eql) (by exact decide_eq_true rfl))) ?_
 iterate 2 refine ww ?_
 refine uw ?_
 refine uz ?_
 refine wy ((Yd.tr (eql) (by exact decide_eq_true rfl))) ?_
 iterate 2 refine ww ?_
 refine uw ?_
 refine uz ?_
 refine wy ((Yd.tr (eql) (by exact decide_eq_true rfl))) ?_
 iterate 2 refine ww ?_
 iterate 2 refine uw ?_
 refine uz ?_
 refine wy ((Yd.tr (eql) (by exact decide_eq_true rfl))) ?_
 iterate 2 refine ww ?_
 refine uw ?_
 refine uz ?_
 refine wy (ix (A := x1.1) (m := 3) (hb := by decide)) ?_
 refine uz ?_
 refine wy (ldE (A := x1.1) (k := 1) (cs := [.int .i64 2]) (hk := rfl)) ?_
 refine uz ?_
 refine wy ((Yd.tr (eql) (by exact decide_eq_true rfl))) ?_
 iterate 2 refine ww ?_
 iterate 2 refine uw ?_
 refine uz ?_
 refine wy ((Yd.tr (eql) (by exact decide_eq_true rfl))) ?_
 iterate 2 refine ww ?_
 refine uw ?_
 refine uz ?_
 refine wy (ix (A := x3.1) (m := 4) (hb := by decide)) ?_
 refine uz ?_
 refine wy (ldE (A := x3.1) (k := 2) (cs := [.int .i64 30]) (hk := rfl)) ?_
 refine uz ?_
 refine wy ((Yd.tr (eql) (by exact decide_eq_true rfl))) ?_
 iterate 2 refine ww ?_
 refine uw ?_
 refine uz ?_
 refine wy ((Yd.tr (eql) (by exact decide_eq_true rfl))) ?_
 iterate 2 refine ww ?_
 refine uw ?_
 refine uz ?_
 refine wy ((Yd.tr (eql) (by exact decide_eq_true rfl))) ?_
 iterate 2 refine ww ?_
 refine nq ?_
 refine rtn ?_
 refine q_ret (hR := ?_)
 exact fun w hS => ⟨rfl, hS.sub slz_⟩
def rkB (ns lots list : List Int) : Bool := (decide (2 ≤ (list.length : Int)) && decide ((list.length : Int) ≤ 4)) && decide (chkP (rkP ns lots list) = 0)
def rkL (ns list : List Int) (k : Nat) : List Ps := (list.take k).map fun p => ⟨p, nationV ns p, false⟩
theorem rkL_snoc {ns list : List Int} {k : Nat} {x : Int} (h : list[k]? = some x) : encPs (rkL ns list k) ++ [[.int .i64 x, .int .i64 (nationV ns x), .bool false]] = encPs (rkL ns list (k + 1)) := by
 unfold rkL encPs
 rw [List.take_add_one, h, List.map_append, List.map_append]; rfl
theorem rkP_len (ns lots list : List Int) : (rkP ns lots list).ps.length = list.length := List.length_map ..
theorem rkP_val (ns lots list : List Int) (A C : Option Addr) (c cc : Nat) : (rkP ns lots list).val ⟨A, C, c, cc⟩ = .agg #[.int .i64 4, .int .i64 2, .slice A list.length c, .slice C lots.length cc] := by
 show Value.agg #[.int .i64 4, .int .i64 2, .slice A (rkP ns lots list).ps.length c, .slice C lots.length cc] = _
 rw [rkP_len]
theorem rkP_prd {ns lots list : List Int} {A C : Option Addr} {c cc : Nat} {w : World} (hc : list.length ≤ c) (hn : list.length ≤ 100) (hm : lots.length ≤ 100) (h1 : Rd w A 3 list.length (encPs (rkL ns list list.length))) (h2 : Rd w C 1 lots.length (enI lots)) : PRd w (rkP ns lots list) ⟨A, C, c, cc⟩ := by
 have hrk : rkL ns list list.length = (rkP ns lots list).ps := by rw [rkL, List.take_length]; rfl
 rw [hrk] at h1
 exact ⟨by rw [rkP_len]; exact h1, h2, by rw [rkP_len]; omega, (show lots.length ≤ 9223372036854775807 by omega), by rw [rkP_len]; exact hc⟩
theorem C_rkCheck (ns lots list : List Int) (A C : Option Addr) (c cc : Nat) (w : World) (h : PRd w (rkP ns lots list) ⟨A, C, c, cc⟩) : C0 Tryz.prog 35 [.agg #[.int .i64 4, .int .i64 2, .slice A list.length c, .slice C lots.length cc]] w (.int .i64 (chkP (rkP ns lots list))) := by
 have e := C_ref06_Check (rkP ns lots list) ⟨A, C, c, cc⟩ (show (-9223372036854775808 : Int) ≤ 4 ∧ (4 : Int) ≤ 9223372036854775807 by decide) w h
 rw [rkP_val] at e
 exact e
theorem C_rkDraw (ns lots list : List Int) (A C : Option Addr) (c cc : Nat) (w : World) (h : PRd w (rkP ns lots list) ⟨A, C, c, cc⟩) : CR Tryz.prog 11 [.agg #[.int .i64 4, .int .i64 2, .slice A list.length c, .slice C lots.length cc]] w (fun _ : Option Addr × Nat => True) (fun x => .tuple #[.slice x.1 (drwP (rkP ns lots list)).1.length x.2, .int .i64 (drwP (rkP ns lots list)).2]) (fun x => [.own x.1 x.2 3 1 (drwP (rkP ns lots list)).1.length (enI (drwP (rkP ns lots list)).1)]) := by
 have e := C_dr_Draw (rkP ns lots list) ⟨A, C, c, cc⟩ (show (-9223372036854775808 : Int) ≤ 4 ∧ (4 : Int) ≤ 9223372036854775807 by decide) w h
 rw [rkP_val] at e
 exact e
theorem nat_in {ns : List Int} {x : Int} (h : (decide (0 ≤ x) && decide (x < (ns.length : Int))) = true) : (0 ≤ x ∧ x < ns.length) ∧ (enI ns)[x.toNat]? = some [.int .i64 (nationV ns x)] := by
 have h0 := h
 rw [Bool.and_eq_true, decide_eq_true_eq, decide_eq_true_eq] at h
 refine ⟨h, ?_⟩
 have e : nationV ns x = ns[x.toNat]'(by omega) := by
  unfold nationV
  rw [h0, cond_true, List.getD_eq_getElem?_getD, List.getElem?_eq_getElem (by omega)]; rfl
 rw [e]
 exact enI_at (List.getElem?_eq_getElem (by omega))
theorem nat_out {ns : List Int} {x : Int} (h : (decide (0 ≤ x) && decide (x < (ns.length : Int))) = false) : nationV ns x = 0 := by unfold nationV; rw [h]; rfl
set_option maxRecDepth 100000 in
set_option maxHeartbeats 4000000 in
theorem C_top_ranked (list ns lots : List Int) (A B C : Option Addr) (c cb cc : Nat) (wk : Int) (hn1 : list.length ≤ 100) (hn2 : ns.length ≤ 100) (hn3 : lots.length ≤ 100) (w : World) (h : Rd w A 1 list.length (enI list)) (h' : Rd w B 1 ns.length (enI ns)) (h'' : Rd w C 1 lots.length (enI lots)) :
  CR Tryz.prog 10 [.slice A list.length c, .agg #[.int .i64 wk, .slice B ns.length cb, .slice C lots.length cc]] w (fun x : Option Addr × Nat => list.length ≤ x.2) (fun x => .tuple #[.agg #[.int .i64 4, .int .i64 2, .slice x.1 list.length x.2, .slice C lots.length cc], .bool (rkB ns lots list)]) (fun x => [.own x.1 x.2 103 3 list.length (encPs (rkL ns list list.length))]) := by
 refine ⟨en Tryz.func10 Tryz.ntmps10 ((((St.init w).share (e := .ro A 1 list.length (enI list)) h rfl rfl rfl).share (e := .ro B 1 ns.length (enI ns)) h' rfl rfl rfl).share (e := .ro C 1 lots.length (enI lots)) h'' rfl rfl rfl) (h := fun F => ?_)⟩
 refine sr ?_
 refine bxA (h := fun b0 => ?_)
 refine al (h := fun b1 => ?_)
 refine ww ?_
 refine nr ?_
 iterate 3 refine ww ?_
 refine al (h := fun bp => ?_)
 first | refine stA (h := ?_) | refine stEA (h := ?_)
 refine nq ?_
 iterate 2 refine sq ?_
 refine WC.nilOwn 103 3 (h := ?_)
 refine rg ?_
 refine ww ?_
 refine nq ?_
 refine bk ?_
 refine lp (X := CoZ) (I := fun z => z.k ≤ list.length ∧ (z.k = list.length → True)) (le := fun z => [(0, .slice A list.length c), (3, .pointer (some ⟨b0, 0, none⟩)), (4, .pointer (some ⟨b1, 0, none⟩)), (6, .pointer (some ⟨bp, 0, none⟩)), (7, .int .i64 z.k)]) (Le := fun z => [.blk bp 37 [.int .i64 4, .int .i64 2, .slice z.A z.k z.c, .slice C lots.length cc], .own z.A z.c 103 3 z.k (encPs (rkL ns list z.k)), .blk b0 28 [.int .i64 wk, .slice B ns.length cb, .slice C lots.length cc], .blk b1 37 [.int .i64 0, .int .i64 0, .slice none 0 0, .slice none 0 0], .ro A 1 list.length (enI list), .ro B 1 ns.length (enI ns), .ro C 1 lots.length (enI lots)]) (μ := fun z => list.length - z.k) ⟨0, none, 0⟩ ⟨Nat.zero_le _, fun _ => trivial⟩ sbz_ slz_ (fun z hz => ?_)
 obtain ⟨hzk, hz2⟩ := hz
 refine sq ?_
 refine sr ?_
 iterate 4 refine ww ?_
 refine nq ?_
 refine czz (fun h0 => ?_) fun h0 => ?_
 ·
  have hkn : z.k < list.length := by have := of_decide_eq_true h0; omega
  obtain ⟨x, hx⟩ : ∃ x, list[z.k]? = some x := ⟨_, List.getElem?_eq_getElem hkn⟩
  have hxe := enI_at hx
  refine skp ?_
  refine q_seq ?_
  refine sq ?_
  refine bk ?_
  refine sr ?_
  refine ww ?_
  refine nq ?_
  iterate 2 refine sq ?_
  refine rgD (by kernel_rfl) [(1000000, .blk b0 28 [.int .i64 wk, .slice B ns.length cb, .slice C lots.length cc]), (1000000, .ro A 1 list.length (enI list))] (by repeat (first | exact HS.nil | (apply HS.keep; (repeat (first | exact At.here | apply At.there))) | (apply HS.ro; (repeat (first | exact Rds.ro | exact Rds.own | apply Rds.there))))) (h := ?_)
  refine tw 0 ?_
  refine tw 1 ?_
  refine tk 2 (hy := ix (A := A) (m := list.length)) (h := ?_)
  refine tk 3 (hy := ldE (A := A) (hk := hxe)) (h := ?_)
  refine tw 4 ?_
  refine tw 5 ?_
  refine brH (g := 23) (by exact rfl) (fun hb1 => ?_) (fun hb1 => ?_)
  ·
   have hg23 : decide (0 ≤ x) = true := hb1
   refine tw 6 ?_
   refine tw 7 ?_
   refine tk 8 (hy := ix (A := A) (m := list.length)) (h := ?_)
   refine tk 9 (hy := ldE (A := A) (hk := hxe)) (h := ?_)
   refine tw 10 ?_
   refine tw 11 ?_
   refine tw 12 ?_
   refine tw 13 ?_
   refine tw 14 ?_
   refine dn (h := ?_)
   refine q_seq ?_
   refine czz (fun h2 => ?_) fun h2 => ?_
   ·
    have hni := nat_in (ns := ns) (x := x) (by rw [hg23, Bool.true_and]; exact h2)
    refine rgD (by kernel_rfl) [(1000000, .blk b0 28 [.int .i64 wk, .slice B ns.length cb, .slice C lots.length cc]), (1000000, .ro A 1 list.length (enI list)), (1000000, .ro B 1 ns.length (enI ns))] (by repeat (first | exact HS.nil | (apply HS.keep; (repeat (first | exact At.here | apply At.there))) | (apply HS.ro; (repeat (first | exact Rds.ro | exact Rds.own | apply Rds.there))))) (h := ?_)
    refine tw 0 ?_
    refine tw 1 ?_
    refine tw 2 ?_
    refine tw 3 ?_
    refine tk 4 (hy := ix (A := A) (m := list.length)) (h := ?_)
    refine tk 5 (hy := ldE (A := A) (hk := hxe)) (h := ?_)
    refine tk 6 (hy := ix (A := B) (m := ns.length) (hb := hni.1)) (h := ?_)
    refine tk 7 (hy := ldE (A := B) (hk := hni.2)) (h := ?_)
    refine tw 8 ?_
    refine dn (h := ?_)
    refine q_seq ?_
    refine rgD (by kernel_rfl) [(11, .blk bp 37 [.int .i64 4, .int .i64 2, .slice z.A z.k z.c, .slice C lots.length cc]), (1000000, .ro A 1 list.length (enI list))] (by repeat (first | exact HS.nil | (apply HS.keep; (repeat (first | exact At.here | apply At.there))) | (apply HS.ro; (repeat (first | exact Rds.ro | exact Rds.own | apply Rds.there))))) (h := ?_)
    refine tw 0 ?_
    refine tw 1 ?_
    refine tw 2 ?_
    refine tw 3 ?_
    refine tk 4 (hy := ix (A := A) (m := list.length)) (h := ?_)
    refine tk 5 (hy := ldE (A := A) (hk := hxe)) (h := ?_)
    refine tw 6 ?_
    refine tw 7 ?_
    refine one 8 (h := ?_)
    refine bs (h := fun b2 => ?_)
    refine nx (h := ?_)
    refine one 9 (h := ?_)
    refine ap (es := encPs (rkL ns list z.k)) (m := z.k) (k := 1) (A := z.A) (c := z.c) (h := fun A1 c1 => ?_)
    rw [rkL_snoc hx]
    refine nx (h := ?_)
    refine tw 10 ?_
    refine one 11 (h := ?_)
    first | refine st (h := ?_) | refine stE (h := ?_)
    refine nx (h := ?_)
    refine dn (h := ?_)
    refine q_blk_norm ?_
    refine q_seq ?_
    refine rg ?_
    iterate 3 refine ww ?_
    refine nl ?_
    refine rn (x := z) ⟨z.k + 1, A1, c1⟩ ⟨hkn, fun _ => trivial⟩ (by dsimp only; omega) sbz_ slz_
   ·
    have hno : nationV ns x = 0 := by
     first
      | exact nat_out hcn
      | exact nat_out (by rw [hg23, Bool.true_and]; assumption)
    rw [show (Value.int .i64 0) = .int .i64 (nationV ns x) by rw [hno]]
    refine skp ?_
    refine q_seq ?_
    refine rgD (by kernel_rfl) [(11, .blk bp 37 [.int .i64 4, .int .i64 2, .slice z.A z.k z.c, .slice C lots.length cc]), (1000000, .ro A 1 list.length (enI list))] (by repeat (first | exact HS.nil | (apply HS.keep; (repeat (first | exact At.here | apply At.there))) | (apply HS.ro; (repeat (first | exact Rds.ro | exact Rds.own | apply Rds.there))))) (h := ?_)
    refine tw 0 ?_
    refine tw 1 ?_
    refine tw 2 ?_
    refine tw 3 ?_
    refine tk 4 (hy := ix (A := A) (m := list.length)) (h := ?_)
    refine tk 5 (hy := ldE (A := A) (hk := hxe)) (h := ?_)
    refine tw 6 ?_
    refine tw 7 ?_
    refine one 8 (h := ?_)
    refine bs (h := fun b3 => ?_)
    refine nx (h := ?_)
    refine one 9 (h := ?_)
    refine ap (es := encPs (rkL ns list z.k)) (m := z.k) (k := 1) (A := z.A) (c := z.c) (h := fun A1 c1 => ?_)
    rw [rkL_snoc hx]
    refine nx (h := ?_)
    refine tw 10 ?_
    refine one 11 (h := ?_)
    first | refine st (h := ?_) | refine stE (h := ?_)
    refine nx (h := ?_)
    refine dn (h := ?_)
    refine q_blk_norm ?_
    refine q_seq ?_
    refine rg ?_
    iterate 3 refine ww ?_
    refine nl ?_
    refine rn (x := z) ⟨z.k + 1, A1, c1⟩ ⟨hkn, fun _ => trivial⟩ (by dsimp only; omega) sbz_ slz_
  ·
   have hcn : (decide (0 ≤ x) && decide (x < (ns.length : Int))) = false := by rw [show decide (0 ≤ x) = false from hb1]; rfl
   refine tkS 6 (h := ?_)
   refine tkS 7 (h := ?_)
   refine tkS 8 (h := ?_)
   refine tkS 9 (h := ?_)
   refine tkS 10 (h := ?_)
   refine tkS 11 (h := ?_)
   refine tkS 12 (h := ?_)
   refine tkS 13 (h := ?_)
   refine tw 14 ?_
   refine dn (h := ?_)
   refine q_seq ?_
   refine cdF (h := ?_)
   have hno : nationV ns x = 0 := by
    first
     | exact nat_out hcn
     | exact nat_out (by rw [hg23, Bool.true_and]; assumption)
   rw [show (Value.int .i64 0) = .int .i64 (nationV ns x) by rw [hno]]
   refine skp ?_
   refine q_seq ?_
   refine rgD (by kernel_rfl) [(11, .blk bp 37 [.int .i64 4, .int .i64 2, .slice z.A z.k z.c, .slice C lots.length cc]), (1000000, .ro A 1 list.length (enI list))] (by repeat (first | exact HS.nil | (apply HS.keep; (repeat (first | exact At.here | apply At.there))) | (apply HS.ro; (repeat (first | exact Rds.ro | exact Rds.own | apply Rds.there))))) (h := ?_)
   refine tw 0 ?_
   refine tw 1 ?_
   refine tw 2 ?_
   refine tw 3 ?_
   refine tk 4 (hy := ix (A := A) (m := list.length)) (h := ?_)
   refine tk 5 (hy := ldE (A := A) (hk := hxe)) (h := ?_)
   refine tw 6 ?_
   refine tw 7 ?_
   refine one 8 (h := ?_)
   refine bs (h := fun b4 => ?_)
   refine nx (h := ?_)
   refine one 9 (h := ?_)
   refine ap (es := encPs (rkL ns list z.k)) (m := z.k) (k := 1) (A := z.A) (c := z.c) (h := fun A1 c1 => ?_)
   rw [rkL_snoc hx]
   refine nx (h := ?_)
   refine tw 10 ?_
   refine one 11 (h := ?_)
   first | refine st (h := ?_) | refine stE (h := ?_)
   refine nx (h := ?_)
   refine dn (h := ?_)
   refine q_blk_norm ?_
   refine q_seq ?_
   refine rg ?_
   iterate 3 refine ww ?_
   refine nl ?_
   refine rn (x := z) ⟨z.k + 1, A1, c1⟩ ⟨hkn, fun _ => trivial⟩ (by dsimp only; omega) sbz_ slz_
 ·
  have hkn : z.k = list.length := by have := of_decide_eq_false h0; omega
  rw [hkn]
  have hzc := hz2 hkn
  refine et ?_
  iterate 2 refine q_then_exit ?_
  refine q_blk_hit ?_
  refine q_seq ?_
  refine sq ?_
  refine WC.room (A := z.A) (k := list.length) atz_ (fun hroom => ?_)
  refine rgD (by kernel_rfl) [(14, .blk b1 37 [.int .i64 0, .int .i64 0, .slice none 0 0, .slice none 0 0]), (1000000, .blk bp 37 [.int .i64 4, .int .i64 2, .slice z.A list.length z.c, .slice C lots.length cc])] (by repeat (first | exact HS.nil | (apply HS.keep; (repeat (first | exact At.here | apply At.there))) | (apply HS.ro; (repeat (first | exact Rds.ro | exact Rds.own | apply Rds.there))))) (h := ?_)
  refine tw 0 ?_
  refine tw 1 ?_
  refine tw 2 ?_
  refine tw 3 ?_
  refine tw 4 ?_
  refine brH (g := 56) (by exact rfl) (fun hb4 => ?_) (fun hb4 => ?_)
  ·
   have hg56 : decide (2 ≤ (list.length : Int)) = true := hb4
   refine tw 5 ?_
   refine tw 6 ?_
   refine tw 7 ?_
   refine tw 8 ?_
   refine tw 9 ?_
   refine brH (g := 61) (by exact rfl) (fun hb5 => ?_) (fun hb5 => ?_)
   ·
    have hr : rkB ns lots list = decide (chkP (rkP ns lots list) = 0) := by unfold rkB; rw [hg56, show decide ((list.length : Int) ≤ 4) = true from hb5]; rfl
    refine tw 10 ?_
    refine one 11 (h := ?_)
    refine uz ?_
    refine cl0 (hc := fun w hS => C_rkCheck ns lots list z.A C z.c cc w (rkP_prd hroom.1 hn1 hn3 (hS.get rdz_) (hS.get rdz_))) (h := ?_)
    refine nx (h := ?_)
    refine tw 12 ?_
    refine tw 13 ?_
    refine one 14 (h := ?_)
    first | refine stA (h := ?_) | refine stEA (h := ?_)
    refine nx (h := ?_)
    refine tw 15 ?_
    refine dn (h := ?_)
    refine q_seq ?_
    refine rtn ?_
    refine q_ret (hR := ?_)
    rw [hr]
    exact fun w hS => ⟨(z.A, z.c), hroom.1, rfl, hS.sub slz_⟩
   ·
    have hr : rkB ns lots list = false := by unfold rkB; rw [show decide ((list.length : Int) ≤ 4) = false from hb5]; simp
    refine tkS 10 (h := ?_)
    refine tkS 11 (h := ?_)
    refine tkS 12 (h := ?_)
    refine tw 13 ?_
    refine one 14 (h := ?_)
    first | refine stA (h := ?_) | refine stEA (h := ?_)
    refine nx (h := ?_)
    refine tw 15 ?_
    refine dn (h := ?_)
    refine q_seq ?_
    refine rtn ?_
    refine q_ret (hR := ?_)
    rw [hr]
    exact fun w hS => ⟨(z.A, z.c), hroom.1, rfl, hS.sub slz_⟩
  ·
   have hr : rkB ns lots list = false := by unfold rkB; rw [show decide (2 ≤ (list.length : Int)) = false from hb4]; rfl
   refine tkS 5 (h := ?_)
   refine tkS 6 (h := ?_)
   refine tkS 7 (h := ?_)
   refine tw 8 ?_
   refine tw 9 ?_
   refine tkS 10 (h := ?_)
   refine tkS 11 (h := ?_)
   refine tkS 12 (h := ?_)
   refine tw 13 ?_
   refine one 14 (h := ?_)
   first | refine stA (h := ?_) | refine stEA (h := ?_)
   refine nx (h := ?_)
   refine tw 15 ?_
   refine dn (h := ?_)
   refine q_seq ?_
   refine rtn ?_
   refine q_ret (hR := ?_)
   rw [hr]
   exact fun w hS => ⟨(z.A, z.c), hroom.1, rfl, hS.sub slz_⟩
end Go.Proofs.YthkliiifllhacaaGreat

namespace Go.Proofs.YthkliiifllhacaaGreat
open Go Go.RowKit

end Go.Proofs.YthkliiifllhacaaGreat

namespace Go.Proofs.YthkliiifllhacaaGreat
open Go Go.RowKit

theorem C_GrowR (n : Nat) (hn : n ≤ 100) (w : World) : CR Tryz.prog 81 [.slice none 0 0, .int .i64 (n : Int)] w (fun _ : Option Addr × Nat => True) (fun x => .slice x.1 0 x.2) (fun x => [.own x.1 x.2 90 5 0 []]) := by
 refine ⟨en Tryz.func81 Tryz.ntmps81 (St.init w) (h := fun F => ?_)⟩
 refine sr ?_
 refine ww ?_
 refine nq ?_
 refine sq ?_
 refine sr ?_
 refine ww ?_
 refine wy ((Yd.fl (lss) (by refine decide_eq_false ?_; omega))) ?_
 refine nq ?_
 refine cdF (h := ?_)
 refine skp ?_
 refine q_seq ?_
 refine sq ?_
 refine sr ?_
 iterate 2 refine ww ?_
 refine wy capS ?_
 iterate 3 refine ww ?_
 refine wy (Yd.to (v' := .int .i64 (n : Int)) subI (by rw [show ((n : Nat) : Int) - (((0 : Nat) : Int) - ((0 : Nat) : Int)) = (n : Int) by omega])) ?_
 refine ww ?_
 refine nr ?_
 iterate 2 refine ww ?_
 refine nq ?_
 refine czz (fun h1 => ?_) fun h1 => ?_
 ·
  have hn0 : 0 < n := by have := of_decide_eq_true h1; omega
  refine rg ?_
  iterate 2 refine ww ?_
  refine wy capS ?_
  refine wy (slP (A := none) (m := 0) (cap := 0) (hi' := 0)) ?_
  refine ww ?_
  refine apz (k := n) (h := fun A1 c1 => ?_)
  iterate 2 refine ww ?_
  refine wy (slP (A := A1) (m := n) (cap := c1) (hi' := 0)) ?_
  refine ww ?_
  refine nq ?_
  refine sq ?_
  first
   | refine WC.shrink (A := A1) (k := n) atz_ (m := 0) (by omega) ?_
   | refine WC.nilOwn 90 5 (h := ?_)
  refine rg ?_
  iterate 2 refine ww ?_
  refine nq ?_
  refine rtn ?_
  refine q_ret (hR := ?_)
  exact fun w hS => ⟨(A1, c1), trivial, rfl, hS.sub slz_⟩
 ·
  refine skp ?_
  refine q_seq ?_
  refine sq ?_
  first
   | refine WC.shrink (A := A1) (k := n) atz_ (m := 0) (by omega) ?_
   | refine WC.nilOwn 90 5 (h := ?_)
  refine rg ?_
  iterate 2 refine ww ?_
  refine nq ?_
  refine rtn ?_
  refine q_ret (hR := ?_)
  exact fun w hS => ⟨(none, 0), trivial, rfl, hS.sub slz_⟩
def szN (n1 n2 : Nat) : Nat → Nat
 | 0 => 0
 | 1 => n1
 | _ => n1 + n2
def catC (e1 e2 : List (List Value)) : Nat → List (List Value)
 | 0 => []
 | 1 => e1
 | _ => e1 ++ e2
theorem cc_at {A1 A2 : Option Addr} {n1 n2 c1 c2 : Nat} {e1 e2 : List (List Value)} {k : Nat} (hk : k < 2) :
  ∃ (B : Option Addr) (m c : Nat) (e : List (List Value)), (⟨B, 5, m, e⟩ : Row) ∈ [(⟨A1, 5, n1, e1⟩ : Row), ⟨A2, 5, n2, e2⟩] ∧ ([[Value.slice A1 n1 c1], [.slice A2 n2 c2]] : List (List Value))[k]? = some [.slice B m c] ∧ szN n1 n2 (k + 1) = szN n1 n2 k + m ∧ catC e1 e2 k ++ e = catC e1 e2 (k + 1) ∧ szN n1 n2 (k + 1) ≤ n1 + n2 := by
 match k, hk with
 | 0, _ => exact ⟨A1, n1, c1, e1, by simp, rfl, by simp [szN], rfl, by simp [szN]⟩
 | 1, _ => exact ⟨A2, n2, c2, e2, by simp, rfl, rfl, rfl, Nat.le_refl _⟩
set_option maxHeartbeats 1000000 in
theorem C_ConcatR (S A1 A2 : Option Addr) (n1 n2 c1 c2 d : Nat) (e1 e2 : List (List Value)) (hn : n1 + n2 ≤ 100) (w : World) (h : Rd w S 1 2 [[.slice A1 n1 c1], [.slice A2 n2 c2]]) (h1 : Rd w A1 5 n1 e1) (h2 : Rd w A2 5 n2 e2) :
  CR Tryz.prog 40 [.slice S 2 d] w (fun _ : Option Addr × Nat => True) (fun x => .slice x.1 (n1 + n2) x.2) (fun x => [.own x.1 x.2 90 5 (n1 + n2) (e1 ++ e2)]) := by
 have hrows : ∀ r ∈ [(⟨A1, 5, n1, e1⟩ : Row), ⟨A2, 5, n2, e2⟩], Rd w r.A r.size r.n r.es := fun r hr => by
  rcases List.mem_cons.1 hr with rfl | hr
  ·
   exact h1
  ·
   rw [List.mem_singleton.1 hr]; exact h2
 refine ⟨en Tryz.func40 Tryz.ntmps40 ((St.init w).share (e := .ro S 1 2 [[.slice A1 n1 c1], [.slice A2 n2 c2]]) h rfl rfl rfl) (h := fun F => ?_)⟩
 refine sr ?_
 refine ww ?_
 refine nq ?_
 refine sq ?_
 refine WC.manyOld hrows ?_
 refine rg ?_
 refine ww ?_
 refine nq ?_
 refine sq ?_
 refine sr ?_
 iterate 3 refine ww ?_
 refine nq ?_
 refine bk ?_
 refine lp (X := Nat) (I := fun k => k ≤ 2) (le := fun k => [(0, .slice S 2 d), (3, .int .i64 (szN n1 n2 k : Nat)), (9, .slice S 2 d), (10, .int .i64 2), (11, .int .i64 k)]) (Le := fun _ => [.ro S 1 2 [[.slice A1 n1 c1], [.slice A2 n2 c2]], manyE false [(⟨A1, 5, n1, e1⟩ : Row), ⟨A2, 5, n2, e2⟩]]) (μ := fun k => 2 - k) 0 (Nat.zero_le _) sbz_ slz_ (fun k hk => ?_)
 refine sr ?_
 refine ww ?_
 refine nq ?_
 refine sq ?_
 refine czz (fun h0 => ?_) fun h0 => ?_
 ·
  have hk2 : k < 2 := by have := of_decide_eq_true h0; omega
  obtain ⟨B, m, cB, e, hrm, hel, hsz, hcat, hle⟩ := cc_at (A1 := A1) (A2 := A2) (n1 := n1) (n2 := n2) (c1 := c1) (c2 := c2) (e1 := e1) (e2 := e2) hk2
  refine skp ?_
  refine q_seq ?_
  refine sq ?_
  refine bk ?_
  refine sr ?_
  refine wy (ix (A := S) (m := 2)) ?_
  refine wy (ldE (A := S) (hk := hel)) ?_
  refine ww ?_
  refine nr ?_
  iterate 5 refine ww ?_
  refine nr ?_
  refine ww ?_
  refine wy ((Yd.fl (lss) (by refine decide_eq_false ?_; omega))) ?_
  refine nq ?_
  refine cdF (h := ?_)
  refine skp ?_
  refine q_blk_norm ?_
  refine q_seq ?_
  refine rg ?_
  iterate 2 refine ww ?_
  refine nl ?_
  refine rn (x := k) (k + 1) hk2 (by omega) (by rw [hsz]; repeat (first | exact trivial | refine ⟨rfl, ?_⟩)) slz_
 ·
  have hk2 : k = 2 := by have := of_decide_eq_false h0; omega
  rw [hk2, show szN n1 n2 2 = n1 + n2 from rfl]
  refine et ?_
  iterate 2 refine q_then_exit ?_
  refine q_blk_hit ?_
  refine q_seq ?_
  refine sr ?_
  refine ww ?_
  refine cl (hc := fun w hS => C_GrowR (n1 + n2) hn w) (h := fun x0 _ => ?_)
  refine ww ?_
  refine nq ?_
  refine sq ?_
  refine sr ?_
  iterate 3 refine ww ?_
  refine nq ?_
  refine bk ?_
  refine lp (X := CoZ) (I := fun z => z.k ≤ 2) (le := fun z => [(6, .slice z.A (szN n1 n2 z.k) z.c), (25, .slice S 2 d), (26, .int .i64 2), (27, .int .i64 z.k)]) (Le := fun z => [.own z.A z.c 90 5 (szN n1 n2 z.k) (catC e1 e2 z.k), .ro S 1 2 [[.slice A1 n1 c1], [.slice A2 n2 c2]], manyE false [(⟨A1, 5, n1, e1⟩ : Row), ⟨A2, 5, n2, e2⟩]]) (μ := fun z => 2 - z.k) ⟨0, x0.1, x0.2⟩ (Nat.zero_le _) sbz_ slz_ (fun z hzk => ?_)
  refine sr ?_
  refine ww ?_
  refine nq ?_
  refine sq ?_
  refine czz (fun h2 => ?_) fun h2 => ?_
  ·
   have hk2 : z.k < 2 := by have := of_decide_eq_true h2; omega
   obtain ⟨B, m, cB, e, hrm, hel, hsz, hcat, hle⟩ := cc_at (A1 := A1) (A2 := A2) (n1 := n1) (n2 := n2) (c1 := c1) (c2 := c2) (e1 := e1) (e2 := e2) hk2
   refine skp ?_
   refine q_seq ?_
   refine sq ?_
   refine bk ?_
   refine sr ?_
   refine wy (ix (A := S) (m := 2)) ?_
   refine wy (ldE (A := S) (hk := hel)) ?_
   refine ww ?_
   refine nq ?_
   refine WC.getRowF (r := ⟨B, 5, m, e⟩) hrm atz_ ?_
   refine rg ?_
   iterate 2 refine ww ?_
   refine ap (es := catC e1 e2 z.k) (m := szN n1 n2 z.k) (k := m) (A := z.A) (c := z.c) (h := fun A3 c3 => ?_)
   rw [hcat]
   refine ww ?_
   refine nl ?_
   refine q_blk_norm ?_
   refine q_seq ?_
   refine rg ?_
   iterate 2 refine ww ?_
   refine nl ?_
   refine rn (x := z) ⟨z.k + 1, A3, c3⟩ hk2 (by dsimp only; omega) (by dsimp only; rw [hsz]; repeat (first | exact trivial | refine ⟨rfl, ?_⟩)) (by dsimp only; rw [hsz]; repeat (first | exact SubL.nil | (apply SubL.cons; (repeat (first | exact At.here | apply At.there))) | exact SubL.refl _ | apply SubL.skip))
  ·
   have hk2 : z.k = 2 := by have := of_decide_eq_false h2; omega
   rw [hk2, show szN n1 n2 2 = n1 + n2 from rfl, show catC e1 e2 2 = e1 ++ e2 from rfl]
   refine et ?_
   iterate 2 refine q_then_exit ?_
   refine q_blk_hit ?_
   refine q_seq ?_
   refine sr ?_
   iterate 2 refine ww ?_
   refine nq ?_
   refine rtn ?_
   refine q_ret (hR := ?_)
   exact fun w hS => ⟨(z.A, z.c), trivial, rfl, hS.sub slz_⟩
theorem C_ref4_Copy (l : Lg) (a : LgA) (w : World) (h : LgR w l a) (hn1 : l.rs.length ≤ 1000) (hn2 : l.bs.length ≤ 1000) (hn3 : l.fs.length ≤ 1000) : CR Tryz.prog 13 [l.val a] w (fun x : LgA => (l.bs.length ≤ x.bc ∧ x.bc ≤ 9223372036854775807) ∧ l.fs.length ≤ x.fc ∧ x.fc ≤ 9223372036854775807) (fun x => l.val x) (fun x => [.own x.rA x.rc 90 5 l.rs.length (l.rs.map Rp.enc), .own x.bA x.bc 115 3 l.bs.length (l.bs.map Ab.enc), .own x.fA x.fc 115 3 l.fs.length (l.fs.map Ab.enc)]) := by
 refine ⟨en Tryz.func13 Tryz.ntmps13 ((((St.init w).share (e := .ro a.rA 5 l.rs.length (l.rs.map Rp.enc)) h.r rfl rfl rfl).share (e := .ro a.bA 3 l.bs.length (l.bs.map Ab.enc)) h.b rfl rfl rfl).share (e := .ro a.fA 3 l.fs.length (l.fs.map Ab.enc)) h.f rfl rfl rfl) (h := fun F => ?_)⟩
 refine sr ?_
 refine bxA (h := fun b0 => ?_)
 refine al (h := fun b1 => ?_)
 refine nr ?_
 refine ww ?_
 refine al (h := fun b2 => ?_)
 first | refine stA (h := ?_) | refine stEA (h := ?_)
 refine nr ?_
 refine bs (h := fun u1 => ?_)
 iterate 2 refine ww ?_
 refine ap (es := []) (m := 0) (k := l.rs.length) (A := some ⟨u1, 0, none⟩) (c := 0) (h := fun A1 c1 => ?_)
 rw [List.nil_append, Nat.zero_add]
 refine ww ?_
 first | refine st (h := ?_) | refine stE (h := ?_)
 refine nr ?_
 refine bs (h := fun u2 => ?_)
 iterate 2 refine ww ?_
 refine ap (es := []) (m := 0) (k := l.bs.length) (A := some ⟨u2, 0, none⟩) (c := 0) (h := fun A2 c2 => ?_)
 rw [List.nil_append, Nat.zero_add]
 refine ww ?_
 first | refine st (h := ?_) | refine stE (h := ?_)
 refine nr ?_
 refine bs (h := fun u3 => ?_)
 iterate 2 refine ww ?_
 refine ap (es := []) (m := 0) (k := l.fs.length) (A := some ⟨u3, 0, none⟩) (c := 0) (h := fun A3 c3 => ?_)
 rw [List.nil_append, Nat.zero_add]
 refine ww ?_
 first | refine st (h := ?_) | refine stE (h := ?_)
 refine nq ?_
 refine sq ?_
 refine WC.room (A := A2) (k := l.bs.length) atz_ (fun hr2 => ?_)
 refine WC.room (A := A3) (k := l.fs.length) atz_ (fun hr3 => ?_)
 refine rg ?_
 refine ww ?_
 first | refine stA (h := ?_) | refine stEA (h := ?_)
 refine nq ?_
 refine rtn ?_
 refine q_ret (hR := ?_)
 exact fun w hS => ⟨⟨A1, A2, A3, c1, c2, c3⟩, ⟨hr2, hr3⟩, rfl, hS.sub slz_⟩
end Go.Proofs.YthkliiifllhacaaGreat

namespace Go.Proofs.YthkliiifllhacaaGreat
open Go Go.RowKit

def PvN (k : Nat) (v : Value) : Prop := ∃ i : Int, v = .int .i64 i ∧ 0 ≤ i ∧ i ≤ k
theorem pv_zero (k : Nat) : PvN k (.int .i64 0) := ⟨0, rfl, by omega, by omega⟩
theorem pv_up {k : Nat} {v : Value} (h : PvN k v) : PvN (k + 1) v := by
 obtain ⟨i, rfl, h1, h2⟩ := h
 exact ⟨i, rfl, h1, by omega⟩
structure MgZ where
 (k : Nat) (es : Array MapEntry) (c : Nat)
abbrev rpK : List Bool := [false, false, false, false, true]
set_option maxRecDepth 100000 in
set_option maxHeartbeats 4000000 in
theorem C_rank_Merge (l : Lg) (a : LgA) (more : List Rp) (M : Option Addr) (c : Nat) (hG : LedG l) (hcl : ¬ Clash l.rs) (hG2 : LedG { l with rs := more }) (hc2 : ¬ Clash more) (hcc : ¬ Clash (l.rs ++ more)) (hn : (l.rs ++ more).length ≤ 10) (hmc : more.length ≤ c ∧ c ≤ 9223372036854775807) (w : World) (h : LgR w l a) (hM : Rd w M 5 more.length (more.map Rp.enc)) :
  CR Tryz.prog 14 [l.val a, .slice M more.length c] w (fun x : LgA => ((oncV (l.rs ++ more)).length ≤ x.rc ∧ x.rc ≤ 9223372036854775807) ∧ (l.bs.length ≤ x.bc ∧ x.bc ≤ 9223372036854775807) ∧ l.fs.length ≤ x.fc ∧ x.fc ≤ 9223372036854775807)
   (fun x => .tuple #[({ l with rs := oncV (l.rs ++ more) } : Lg).val x, .int .i64 0]) (fun x => [.own x.rA x.rc 90 5 (oncV (l.rs ++ more)).length ((oncV (l.rs ++ more)).map Rp.enc), .own x.bA x.bc 115 3 l.bs.length (l.bs.map Ab.enc), .own x.fA x.fc 115 3 l.fs.length (l.fs.map Ab.enc)]) := by
 have hnl : l.rs.length + more.length ≤ 10 := by rwa [List.length_append] at hn
 obtain ⟨R, hR⟩ : ∃ R, R = l.rs ++ more := ⟨_, rfl⟩
 have hRl : l.rs.length + more.length = R.length := by rw [hR, List.length_append]
 have hRb : ∀ r ∈ R, RpB r := fun r hr => by
  rw [hR] at hr
  rcases List.mem_append.1 hr with hr | hr
  ·
   exact hG.rb hr
  ·
   exact hG2.rb (l := { l with rs := more }) hr
 have hRm : l.rs.map Rp.enc ++ more.map Rp.enc = R.map Rp.enc := by rw [hR, List.map_append]
 rw [← hR] at hcc hn
 rw [← hR]
 have hbl := hG.bl
 have hfl := hG.fl
 have hbn := h.bn
 have hfn := h.fn
 refine ⟨en Tryz.func14 Tryz.ntmps14 (((((St.init w).share (e := .ro a.rA 5 l.rs.length (l.rs.map Rp.enc)) h.r rfl rfl rfl).share (e := .ro a.bA 3 l.bs.length (l.bs.map Ab.enc)) h.b rfl rfl rfl).share (e := .ro a.fA 3 l.fs.length (l.fs.map Ab.enc)) h.f rfl rfl rfl).share (e := .ro M 5 more.length (more.map Rp.enc)) hM rfl rfl rfl) (h := fun F => ?_)⟩
 refine sr ?_
 refine bxA (h := fun b0 => ?_)
 refine al (h := fun b1 => ?_)
 refine ww ?_
 refine nq ?_
 refine sq ?_
 refine sr ?_
 refine ww ?_
 refine cl0 (hc := fun w hS => C_rank_Check l a hG hcl (by omega) w (h.old hS)) (h := ?_)
 refine ww ?_
 refine nr ?_
 refine ww ?_
 refine wy ((Yd.fl (neq) (by rfl))) ?_
 refine nq ?_
 refine cdF (h := ?_)
 refine skp ?_
 refine q_seq ?_
 refine sr ?_
 refine ww ?_
 refine al (h := fun bo => ?_)
 first | refine stA (h := ?_) | refine stEA (h := ?_)
 refine nr ?_
 iterate 2 refine ww ?_
 first | refine st (h := ?_) | refine stE (h := ?_)
 refine nq ?_
 refine sq ?_
 refine sr ?_
 refine ww ?_
 refine cl0 (hc := fun w hS => C_rank_Check { l with rs := more } ⟨M, a.bA, a.fA, c, a.bc, a.fc⟩ hG2 hc2 (show more.length ≤ 19 by omega) w ⟨hS.get rdz_, hS.get rdz_, hS.get rdz_, hmc, hbn, hfn⟩) (h := ?_)
 refine ww ?_
 refine nr ?_
 refine ww ?_
 refine wy ((Yd.fl (neq) (by rfl))) ?_
 refine nq ?_
 refine cdF (h := ?_)
 refine skp ?_
 refine q_seq ?_
 refine sr ?_
 refine mkm (h := fun bm => ?_)
 refine ww ?_
 refine nq ?_
 refine sq ?_
 refine sr ?_
 iterate 3 refine ww ?_
 refine bs (h := fun u1 => ?_)
 refine cl (hc := fun w hS => C_ConcatR (some ⟨u1, 0, none⟩) a.rA M l.rs.length more.length a.rc c 2 (l.rs.map Rp.enc) (more.map Rp.enc) (by omega) w (hS.get rdz_) (hS.get rdz_) (hS.get rdz_)) (h := fun x0 _ => ?_)
 rw [hRm, hRl]
 iterate 2 refine ww ?_
 refine nq ?_
 refine bk ?_
 refine lp (X := MgZ) (I := fun z => z.k ≤ R.length ∧ MapV z.es rpK (PvN z.k) z.k) (le := fun z => [(1, .slice M more.length c), (2, .pointer (some ⟨b0, 0, none⟩)), (4, .pointer (some ⟨b1, 0, none⟩)), (9, .map (some bm)), (34, .slice x0.1 R.length x0.2), (35, .int .i64 R.length), (36, .int .i64 z.k)]) (Le := fun z => [.obj bm (.map z.es z.c), .own x0.1 x0.2 90 5 R.length (R.map Rp.enc), .blk b0 25 (l.cells a), .blk b1 25 [.int .i64 0, .int .i64 0, .slice none 0 0, .slice none 0 0, .slice none 0 0], .ro a.rA 5 l.rs.length (l.rs.map Rp.enc), .ro a.bA 3 l.bs.length (l.bs.map Ab.enc), .ro a.fA 3 l.fs.length (l.fs.map Ab.enc), .ro M 5 more.length (more.map Rp.enc)]) (μ := fun z => R.length - z.k) ⟨0, #[], 0⟩ ⟨Nat.zero_le _, mapV_nil _ _⟩ sbz_ slz_ (fun z hz => ?_)
 obtain ⟨hzk, hzm⟩ := hz
 refine sr ?_
 refine ww ?_
 refine nq ?_
 refine sq ?_
 refine czz (fun h2 => ?_) fun h2 => ?_
 ·
  have hkn : z.k < R.length := by have := of_decide_eq_true h2; omega
  obtain ⟨y, hy⟩ : ∃ y, R[z.k]? = some y := ⟨_, List.getElem?_eq_getElem hkn⟩
  refine skp ?_
  refine q_seq ?_
  refine sq ?_
  refine bk ?_
  refine sr ?_
  refine wy (ix (A := x0.1) (m := R.length)) ?_
  refine wy (ldEW (A := x0.1) (k := z.k) (cs := y.enc) (hk := rp_at hy)) ?_
  refine al (h := fun ba => ?_)
  first | refine stA (h := ?_) | refine stEA (h := ?_)
  refine nq ?_
  refine rgD (by kernel_rfl) [(1000000, .blk ba 90 y.enc)] (by repeat (first | exact HS.nil | (apply HS.keep; (repeat (first | exact At.here | apply At.there))) | (apply HS.ro; (repeat (first | exact Rds.ro | exact Rds.own | apply Rds.there))))) (h := ?_)
  refine tw 0 ?_
  refine tw 1 ?_
  refine two 2 4 (h1 := ?_) (h2 := ?_)
  ·
   refine lkV (hm := by assumption) (hz := pv_zero _) (h := fun v0 hv0 => ?_)
   obtain ⟨i0, rfl, hi0, hi1⟩ := hv0
   refine nx (h := ?_)
   refine tw 3 ?_
   refine one 4 (h := ?_)
   refine mpe (hm := hzm) (hz := pv_zero _) (h := fun es1 cl1 v1 s1 hm1 hj1 => ?_)
   refine nx (h := ?_)
   refine tw 5 ?_
   refine one 6 (h := ?_)
   refine est (Pv := PvN (z.k + 1)) (hm := hm1.mono (fun v hv => pv_up hv)) (hj := hj1) (hv := ⟨i0 + 1, rfl, by omega, by omega⟩) (h := fun es2 hm2 => ?_)
   refine nx (h := ?_)
   refine dn (h := ?_)
   refine q_blk_norm ?_
   refine q_seq ?_
   refine rg ?_
   iterate 2 refine ww ?_
   refine nl ?_
   refine rn (x := z) ⟨z.k + 1, es2, cl1⟩ ⟨hkn, hm2⟩ (by dsimp only; omega) sbz_ slz_
  ·
   refine mpe (hm := hzm) (hz := pv_zero _) (h := fun es1 cl1 v1 s1 hm1 hj1 => ?_)
   refine nx (h := ?_)
   refine tw 5 ?_
   refine one 2 (h := ?_)
   refine lkV (hm := by assumption) (hz := pv_zero _) (h := fun v0 hv0 => ?_)
   obtain ⟨i0, rfl, hi0, hi1⟩ := hv0
   refine nx (h := ?_)
   refine tw 3 ?_
   refine one 6 (h := ?_)
   refine est (Pv := PvN (z.k + 1)) (hm := hm1.mono (fun v hv => pv_up hv)) (hj := hj1) (hv := ⟨i0 + 1, rfl, by omega, by omega⟩) (h := fun es2 hm2 => ?_)
   refine nx (h := ?_)
   refine dn (h := ?_)
   refine q_blk_norm ?_
   refine q_seq ?_
   refine rg ?_
   iterate 2 refine ww ?_
   refine nl ?_
   refine rn (x := z) ⟨z.k + 1, es2, cl1⟩ ⟨hkn, hm2⟩ (by dsimp only; omega) sbz_ slz_
 ·
  have hsz := hzm.size
  refine et ?_
  iterate 2 refine q_then_exit ?_
  refine q_blk_hit ?_
  refine q_seq ?_
  refine sq ?_
  refine sr ?_
  refine ww ?_
  refine wy lenMp ?_
  refine wy ((Yd.fl (gtr) (by refine decide_eq_false ?_; omega))) ?_
  refine nq ?_
  refine cdF (h := ?_)
  refine skp ?_
  refine q_seq ?_
  refine sr ?_
  iterate 3 refine ww ?_
  refine bs (h := fun u2 => ?_)
  refine cl (hc := fun w hS => C_ConcatR (some ⟨u2, 0, none⟩) a.rA M l.rs.length more.length a.rc c 2 (l.rs.map Rp.enc) (more.map Rp.enc) (by omega) w (hS.get rdz_) (hS.get rdz_) (hS.get rdz_)) (h := fun x1 _ => ?_)
  rw [hRm, hRl]
  refine cl (hc := fun w hS => C_rank_once R x1.1 R.length x1.2 rfl (by omega) hRb hcc w (hS.get rdz_)) (h := fun x2 _ => ?_)
  iterate 5 refine ww ?_
  refine nq ?_
  refine sq ?_
  refine sr ?_
  refine ww ?_
  refine wy ((Yd.fl (notB) (by rfl))) ?_
  refine nq ?_
  refine cdF (h := ?_)
  refine skp ?_
  refine q_seq ?_
  refine sq ?_
  refine rgD (by kernel_rfl) [(8, .blk b0 25 (l.cells a))] (by repeat (first | exact HS.nil | (apply HS.keep; (repeat (first | exact At.here | apply At.there))) | (apply HS.ro; (repeat (first | exact Rds.ro | exact Rds.own | apply Rds.there))))) (h := ?_)
  refine tw 0 ?_
  refine tw 1 ?_
  refine tw 2 ?_
  refine tw 4 ?_
  refine tw 5 ?_
  refine tw 7 ?_
  refine one 3 (h := ?_)
  refine cl (hc := fun w hS => C_CloneAb a.bA l.bs.length a.bc _ w (hS.get rdz_) (by omega)) (h := fun x3 _ => ?_)
  refine nx (h := ?_)
  refine one 6 (h := ?_)
  refine cl (hc := fun w hS => C_CloneAb a.fA l.fs.length a.fc _ w (hS.get rdz_) (by omega)) (h := fun x4 _ => ?_)
  refine nx (h := ?_)
  refine one 8 (h := ?_)
  first | refine st (h := ?_) | refine stE (h := ?_)
  refine nx (h := ?_)
  refine tw 9 ?_
  refine one 10 (h := ?_)
  first | refine st (h := ?_) | refine stE (h := ?_)
  refine nx (h := ?_)
  refine tw 11 ?_
  refine one 12 (h := ?_)
  first | refine st (h := ?_) | refine stE (h := ?_)
  refine nx (h := ?_)
  refine dn (h := ?_)
  refine q_seq ?_
  refine sq ?_
  refine WC.room (A := x2.1) (k := (oncV R).length) atz_ (fun hr1 => ?_)
  refine WC.room (A := x3.1) (k := l.bs.length) atz_ (fun hr2 => ?_)
  refine WC.room (A := x4.1) (k := l.fs.length) atz_ (fun hr3 => ?_)
  refine rg ?_
  refine ww ?_
  first | refine stA (h := ?_) | refine stEA (h := ?_)
  refine ww ?_
  refine nq ?_
  refine rtn ?_
  refine q_ret (hR := ?_)
  exact fun w hS => ⟨⟨x2.1, x3.1, x4.1, x2.2, x3.2, x4.2⟩, ⟨hr1, hr2, hr3⟩, rfl, hS.sub slz_⟩
end Go.Proofs.YthkliiifllhacaaGreat

namespace Go.Proofs.YthkliiifllhacaaGreat
open Go Go.RowKit

theorem drop_rows {l : List Rp} {cz : Nat} : (((l.map Rp.enc).drop cz).take (l.length - cz)) = (l.drop cz).map Rp.enc := by
 rw [List.map_drop, List.take_of_length_le]
 rw [List.length_drop, List.length_map]
 exact Nat.le_refl _
theorem monday_merge {l : Lg} {a x0 : LgA} {cz : Nat} (hG : LedG l) (hcl : ¬ Clash l.rs) (hcz : cz ≤ l.rs.length) (hrn : l.rs.length ≤ 10) (hrc : l.rs.length ≤ a.rc ∧ a.rc ≤ 9223372036854775807) (hx0 : (l.bs.length ≤ x0.bc ∧ x0.bc ≤ 9223372036854775807) ∧ l.fs.length ≤ x0.fc ∧ x0.fc ≤ 9223372036854775807) (hTD : l.rs.take cz ++ l.rs.drop cz = l.rs) (hTm : ∀ r ∈ l.rs.take cz, r ∈ l.rs) (hDm : ∀ r ∈ l.rs.drop cz, r ∈ l.rs) (w : World)
  (h1 : Rd w a.rA 5 cz ((l.rs.take cz).map Rp.enc)) (h2 : Rd w x0.bA 3 l.bs.length (l.bs.map Ab.enc)) (h3 : Rd w x0.fA 3 l.fs.length (l.fs.map Ab.enc)) (h4 : Rd w (if a.rc = cz then a.rA else a.rA.map (·.add (cz * 5))) 5 (l.rs.length - cz) ((l.rs.drop cz).map Rp.enc)) :
  CR Tryz.prog 14 [.agg #[.int .i64 l.players, .int .i64 l.counts, .slice a.rA cz a.rc, .slice x0.bA l.bs.length x0.bc, .slice x0.fA l.fs.length x0.fc], .slice (if a.rc = cz then a.rA else a.rA.map (·.add (cz * 5))) (l.rs.length - cz) (a.rc - cz)] w
   (fun x : LgA => (l.open.rs.length ≤ x.rc ∧ x.rc ≤ 9223372036854775807) ∧ (l.bs.length ≤ x.bc ∧ x.bc ≤ 9223372036854775807) ∧ l.fs.length ≤ x.fc ∧ x.fc ≤ 9223372036854775807) (fun x => .tuple #[l.open.val x, .int .i64 0]) (fun x => [.own x.rA x.rc 90 5 (oncV l.rs).length ((oncV l.rs).map Rp.enc), .own x.bA x.bc 115 3 l.bs.length (l.bs.map Ab.enc), .own x.fA x.fc 115 3 l.fs.length (l.fs.map Ab.enc)]) := by
 have hT : (l.rs.take cz).length = cz := by rw [List.length_take]; omega
 have hD : (l.rs.drop cz).length = l.rs.length - cz := List.length_drop ..
 have e := C_rank_Merge { l with rs := l.rs.take cz } ⟨a.rA, x0.bA, x0.fA, a.rc, x0.bc, x0.fc⟩ (l.rs.drop cz) (if a.rc = cz then a.rA else a.rA.map (·.add (cz * 5))) (a.rc - cz) (hG.sub hTm (by rw [hT]; omega)) (clash_sub hTm hcl) (hG.sub hDm (by rw [hD]; omega)) (clash_sub hDm hcl)
  (by show ¬ Clash (l.rs.take cz ++ l.rs.drop cz); rw [hTD]; exact hcl) (by show (l.rs.take cz ++ l.rs.drop cz).length ≤ 10; rw [hTD]; exact hrn) (by rw [hD]; omega) w
  ⟨by show Rd w a.rA 5 (l.rs.take cz).length ((l.rs.take cz).map Rp.enc); rw [hT]; exact h1, h2, h3, by show (l.rs.take cz).length ≤ a.rc ∧ a.rc ≤ _; rw [hT]; omega, hx0.1, hx0.2⟩ (by rw [hD]; exact h4)
 have e1 : ({ l with rs := l.rs.take cz } : Lg).val ⟨a.rA, x0.bA, x0.fA, a.rc, x0.bc, x0.fc⟩ = .agg #[.int .i64 l.players, .int .i64 l.counts, .slice a.rA cz a.rc, .slice x0.bA l.bs.length x0.bc, .slice x0.fA l.fs.length x0.fc] := by
  show Value.agg #[.int .i64 l.players, .int .i64 l.counts, .slice a.rA (l.rs.take cz).length a.rc, .slice x0.bA l.bs.length x0.bc, .slice x0.fA l.fs.length x0.fc] = _
  rw [hT]
 rw [e1, hD] at e
 have e2 : oncV (({ l with rs := l.rs.take cz } : Lg).rs ++ l.rs.drop cz) = oncV l.rs := congrArg oncV hTD
 rw [e2] at e
 exact e
set_option maxRecDepth 100000 in
set_option maxHeartbeats 4000000 in
theorem K_TopMonday (l : Lg) (a : LgA) (x : BtA) (cut : Int) (w : World) (h : LgR w l a) (h' : Rd w x.B 1 x.ns.length (enI x.ns)) (h'' : Rd w x.C 1 x.lots.length (enI x.lots)) (hn1 : x.ns.length ≤ 9223372036854775807) (hn2 : x.lots.length ≤ 9223372036854775807) :
  C0 Tryz.prog 4 [l.val a, .agg #[.int .i64 x.wk, .slice x.B x.ns.length x.cb, .slice x.C x.lots.length x.cc], .int .i64 cut] w (.bool true) := by
 have hrc := h.rn
 refine ⟨en Tryz.func4 Tryz.ntmps4 ((((St.init w).share (e := .ro x.B 1 x.ns.length (enI x.ns)) h' rfl rfl rfl).share (e := .ro x.C 1 x.lots.length (enI x.lots)) h'' rfl rfl rfl).share (e := .ro a.rA 5 l.rs.length (l.rs.map Rp.enc)) h.r rfl rfl rfl) (h := fun F => ?_)⟩
 refine sr ?_
 refine bxA (h := fun b0 => ?_)
 refine bxA (h := fun b1 => ?_)
 refine ww ?_
 refine nq ?_
 refine sq ?_
 refine sr ?_
 refine ww ?_
 refine cl0 (hc := fun w hS => C_law4_Far l a w (h.old hS)) (h := ?_)
 refine ww ?_
 apply brOr 4 25 29 (by exact rfl)
 ·
  intro hb0
  refine uw ?_
  refine uz ?_
  refine cl0 (hc := fun w hS => C_ref4_Check l a w (h.old hS)) (h := ?_)
  refine uw ?_
  refine ww ?_
  exact mg (by repeat (first | exact trivial | refine ⟨rfl, ?_⟩ | refine ⟨by rw [hb0]; rfl, ?_⟩)) slz_
 ·
  intro hb0
  repeat (first | refine uz ?_ | refine kz ?_ | refine wz ?_)
  exact mg (by repeat (first | exact trivial | refine ⟨rfl, ?_⟩ | refine ⟨by rw [hb0]; rfl, ?_⟩)) slz_
 refine ww ?_
 apply brOr 4 30 34 (by exact rfl)
 ·
  intro hb1
  iterate 3 refine uw ?_
  refine ww ?_
  exact mg (by repeat (first | exact trivial | refine ⟨rfl, ?_⟩ | refine ⟨by rw [hb1]; rfl, ?_⟩)) slz_
 ·
  intro hb1
  repeat (first | refine uz ?_ | refine kz ?_ | refine wz ?_)
  exact mg (by repeat (first | exact trivial | refine ⟨rfl, ?_⟩ | refine ⟨by rw [hb1]; rfl, ?_⟩)) slz_
 refine ww ?_
 apply brOr 4 35 39 (by exact rfl)
 ·
  intro hb2
  iterate 3 refine uw ?_
  refine ww ?_
  exact mg (by repeat (first | exact trivial | refine ⟨rfl, ?_⟩ | refine ⟨by rw [hb2]; rfl, ?_⟩)) slz_
 ·
  intro hb2
  repeat (first | refine uz ?_ | refine kz ?_ | refine wz ?_)
  exact mg (by repeat (first | exact trivial | refine ⟨rfl, ?_⟩ | refine ⟨by rw [hb2]; rfl, ?_⟩)) slz_
 refine ww ?_
 apply brOr 5 40 45 (by exact rfl)
 ·
  intro hb3
  iterate 4 refine uw ?_
  refine ww ?_
  exact mg (by repeat (first | exact trivial | refine ⟨rfl, ?_⟩ | refine ⟨by rw [hb3]; rfl, ?_⟩)) slz_
 ·
  intro hb3
  repeat (first | refine uz ?_ | refine kz ?_ | refine wz ?_)
  exact mg (by repeat (first | exact trivial | refine ⟨rfl, ?_⟩ | refine ⟨by rw [hb3]; rfl, ?_⟩)) slz_
 refine ww ?_
 apply brOr 5 46 51 (by exact rfl)
 ·
  intro hb4
  iterate 4 refine uw ?_
  refine ww ?_
  exact mg (by repeat (first | exact trivial | refine ⟨rfl, ?_⟩ | refine ⟨by rw [hb4]; rfl, ?_⟩)) slz_
 ·
  intro hb4
  repeat (first | refine uz ?_ | refine kz ?_ | refine wz ?_)
  exact mg (by repeat (first | exact trivial | refine ⟨rfl, ?_⟩ | refine ⟨by rw [hb4]; rfl, ?_⟩)) slz_
 refine ww ?_
 apply brOr 3 52 55 (by exact rfl)
 ·
  intro hb5
  iterate 2 refine uw ?_
  refine ww ?_
  exact mg (by repeat (first | exact trivial | refine ⟨rfl, ?_⟩ | refine ⟨by rw [hb5]; rfl, ?_⟩)) slz_
 ·
  intro hb5
  repeat (first | refine uz ?_ | refine kz ?_ | refine wz ?_)
  exact mg (by repeat (first | exact trivial | refine ⟨rfl, ?_⟩ | refine ⟨by rw [hb5]; rfl, ?_⟩)) slz_
 refine ww ?_
 apply brOr 6 56 62 (by exact rfl)
 ·
  intro hb6
  iterate 5 refine uw ?_
  refine ww ?_
  exact mg (by repeat (first | exact trivial | refine ⟨rfl, ?_⟩ | refine ⟨by rw [hb6]; rfl, ?_⟩)) slz_
 ·
  intro hb6
  repeat (first | refine uz ?_ | refine kz ?_ | refine wz ?_)
  exact mg (by repeat (first | exact trivial | refine ⟨rfl, ?_⟩ | refine ⟨by rw [hb6]; rfl, ?_⟩)) slz_
 refine nq ?_
 refine czz (fun h7 => ?_) fun h7 => ?_
 ·
  refine sr ?_
  refine cl0 (hc := fun w hS => C_top_seeded w) (h := ?_)
  refine ww ?_
  refine nq ?_
  refine rtn ?_
  refine q_then_ret ?_
  refine q_ret (hR := ?_)
  exact fun w hS => ⟨rfl, hS.sub slz_⟩
 ·
  have h00 := h7
  simp only [Bool.or_eq_false_iff, decide_eq_false_iff_not, Bool.not_eq_false', decide_eq_true_eq] at h00
  obtain ⟨⟨⟨⟨⟨⟨⟨hfr, hlg⟩, hw1⟩, hw2⟩, hm1⟩, hm2⟩, hc1⟩, hc2⟩ := h00
  obtain ⟨hG, hcl⟩ := lg_ok hlg
  obtain ⟨hp5, hrn⟩ := far_lg hfr hlg
  have hpp := hG.p
  have hbl := hG.bl
  have hfl := hG.fl
  obtain ⟨cz, rfl⟩ : ∃ cz : Nat, cut = (cz : Int) := ⟨cut.toNat, by omega⟩
  have hcz : cz ≤ l.rs.length := by omega
  obtain ⟨L, hL⟩ : ∃ L, L = lstV l.open x.wk := ⟨_, rfl⟩
  obtain ⟨hnd, hin, hll0⟩ := lst_facts l.open x.wk (by show 0 ≤ l.players; omega)
  rw [← hL] at hnd hin hll0
  have hll : (L.length : Int) ≤ l.players := hll0
  have hT : (l.rs.take cz).length = cz := by rw [List.length_take]; omega
  have hD : (l.rs.drop cz).length = l.rs.length - cz := List.length_drop ..
  have hTD : l.rs.take cz ++ l.rs.drop cz = l.rs := List.take_append_drop ..
  have hTm : ∀ r ∈ l.rs.take cz, r ∈ l.rs := fun r hr => List.mem_of_mem_take hr
  have hDm : ∀ r ∈ l.rs.drop cz, r ∈ l.rs := fun r hr => List.mem_of_mem_drop hr
  refine skp ?_
  refine q_seq ?_
  refine sr ?_
  refine ww ?_
  refine cl (hc := fun w hS => C_ref4_Copy l a w (h.old hS) (by omega) (by omega) (by omega)) (h := fun x0 hx0 => ?_)
  refine al (h := fun b7 => ?_)
  first | refine stA (h := ?_) | refine stEA (h := ?_)
  refine nr ?_
  iterate 3 refine ww ?_
  refine wy (slP (A := a.rA) (m := l.rs.length) (cap := a.rc) (hi' := cz) (hc := by omega)) ?_
  refine ww ?_
  first | refine st (h := ?_) | refine stE (h := ?_)
  refine nq ?_
  refine ct (X := Nat × LgA) (fun z => (l.open.rs.length ≤ z.2.rc ∧ z.2.rc ≤ 9223372036854775807) ∧ (l.bs.length ≤ z.2.bc ∧ z.2.bc ≤ 9223372036854775807) ∧ l.fs.length ≤ z.2.fc ∧ z.2.fc ≤ 9223372036854775807) (fun z => [(3, .pointer (some ⟨b0, 0, none⟩)), (4, .pointer (some ⟨b1, 0, none⟩)), (8, .pointer (some ⟨z.1, 0, none⟩)), (9, .int .i64 0)]) (fun z => [.blk z.1 25 (l.open.cells z.2), .own z.2.rA z.2.rc 90 5 (oncV l.rs).length ((oncV l.rs).map Rp.enc), .own z.2.bA z.2.bc 115 3 l.bs.length (l.bs.map Ab.enc), .own z.2.fA z.2.fc 115 3 l.fs.length (l.fs.map Ab.enc), .blk b0 25 (l.cells a), .blk b1 28 [.int .i64 x.wk, .slice x.B x.ns.length x.cb, .slice x.C x.lots.length x.cc], .ro x.B 1 x.ns.length (enI x.ns), .ro x.C 1 x.lots.length (enI x.lots)]) (h1 := ?_) (h2 := ?_)
  ·
   refine WC.part (A := a.rA) (cap := a.rc) atz_ cz l.rs.length (by omega) (Nat.le_refl _) (by omega) ?_
   refine WC.pre (A := a.rA) (m := l.rs.length) atz_ cz hcz ?_
   rw [drop_rows, ← List.map_take]
   refine rgD0 (by kernel_rfl) (h := ?_)
   refine tw 0 ?_
   refine tw 1 ?_
   refine tw 2 ?_
   refine tw 3 ?_
   refine tk 4 (hy := slV (A := a.rA) (m := l.rs.length) (cap := a.rc) (lo' := cz) (hi' := l.rs.length) (hh := .inl ⟨rfl, rfl⟩) (hl := .inr ⟨_, _, _, rfl, rfl, by omega, by omega, by omega⟩)) (h := ?_)
   refine two 5 9 (h1 := ?_) (h2 := ?_)
   ·
    refine cl (hc := fun w hS => monday_merge hG hcl hcz hrn hrc hx0 hTD hTm hDm w (hS.get rdz_) (hS.get rdz_) (hS.get rdz_) (hS.get rdz_)) (h := fun xm hxm => ?_)
    refine nx (h := ?_)
    refine tw 6 ?_
    refine tw 7 ?_
    refine tw 8 ?_
    refine one 9 (h := ?_)
    refine al (h := fun b8 => ?_)
    refine nx (h := ?_)
    refine one 10 (h := ?_)
    first | refine stA (h := ?_) | refine stEA (h := ?_)
    refine nx (h := ?_)
    refine tw 11 ?_
    refine dn (h := ?_)
    exact ctn (b8, xm) hxm sbz_ slz_
   ·
    refine al (h := fun b8 => ?_)
    refine nx (h := ?_)
    refine one 5 (h := ?_)
    refine cl (hc := fun w hS => monday_merge hG hcl hcz hrn hrc hx0 hTD hTm hDm w (hS.get rdz_) (hS.get rdz_) (hS.get rdz_) (hS.get rdz_)) (h := fun xm hxm => ?_)
    refine nx (h := ?_)
    refine tw 6 ?_
    refine tw 7 ?_
    refine tw 8 ?_
    refine one 10 (h := ?_)
    first | refine stA (h := ?_) | refine stEA (h := ?_)
    refine nx (h := ?_)
    refine tw 11 ?_
    refine dn (h := ?_)
    exact ctn (b8, xm) hxm sbz_ slz_
  rintro ⟨b8, xm⟩ hxm
  refine sq ?_
  refine sr ?_
  refine ww ?_
  refine wy ((Yd.fl (neq) (by rfl))) ?_
  refine nq ?_
  refine cdF (h := ?_)
  refine skp ?_
  refine q_seq ?_
  refine sr ?_
  iterate 3 refine ww ?_
  refine cl (hc := fun w hS => C_rank_List l a x.wk hG hcl hrn (by omega) (by omega) w (h.old hS)) (h := fun x1 _ => ?_)
  rw [← hL]
  iterate 5 refine ww ?_
  refine nr ?_
  iterate 3 refine ww ?_
  refine cl (hc := fun w hS => C_rank_List l.open xm x.wk hG.opn (strict_clash (onc_strict hcl)) (Nat.le_trans (onc_len _) hrn) (show l.players ≤ 12 by omega) (by omega) w ⟨hS.get rdz_, hS.get rdz_, hS.get rdz_, hxm.1, hxm.2.1, hxm.2.2⟩) (h := fun x2 _ => ?_)
  rw [open_open hcl, ← hL]
  iterate 5 refine ww ?_
  refine nq ?_
  refine sq ?_
  refine sr ?_
  refine ww ?_
  refine wy ((Yd.fl (neq) (by rfl))) ?_
  refine ww ?_
  refine uw ?_
  refine uz ?_
  refine wy ((Yd.fl (neq) (by rfl))) ?_
  iterate 2 refine ww ?_
  iterate 4 refine uw ?_
  refine uz ?_
  refine wy ((Yd.fl (neq) (by simp))) ?_
  iterate 2 refine ww ?_
  iterate 4 refine uw ?_
  refine uz ?_
  refine wy ((Yd.fl (gtr) (by refine decide_eq_false ?_; omega))) ?_
  refine ww ?_
  refine nq ?_
  refine cdF (h := ?_)
  refine skp ?_
  refine q_seq ?_
  refine sr ?_
  iterate 2 refine ww ?_
  refine cl (hc := fun w hS => C_top_ranked L x.ns x.lots x1.1 x.B x.C x1.2 x.cb x.cc x.wk (by omega) (by omega) (by omega) w (hS.get rdz_) (hS.get rdz_) (hS.get rdz_)) (h := fun x3 hx3 => ?_)
  iterate 3 refine ww ?_
  refine al (h := fun b14 => ?_)
  first | refine stA (h := ?_) | refine stEA (h := ?_)
  refine ww ?_
  refine nr ?_
  iterate 2 refine ww ?_
  refine cl (hc := fun w hS => C_top_ranked L x.ns x.lots x2.1 x.B x.C x2.2 x.cb x.cc x.wk (by omega) (by omega) (by omega) w (hS.get rdz_) (hS.get rdz_) (hS.get rdz_)) (h := fun x4 hx4 => ?_)
  iterate 3 refine ww ?_
  refine al (h := fun b16 => ?_)
  first | refine stA (h := ?_) | refine stEA (h := ?_)
  refine ww ?_
  refine nq ?_
  refine sq ?_
  refine sr ?_
  iterate 2 refine ww ?_
  refine wy ((Yd.fl (neqB) (by simp))) ?_
  refine nq ?_
  refine cdF (h := ?_)
  refine skp ?_
  refine q_seq ?_
  refine sq ?_
  refine sr ?_
  iterate 2 refine ww ?_
  refine nq ?_
  refine czz (fun h11 => ?_) fun h11 => ?_
  ·
   refine sr ?_
   refine cl0 (hc := fun w hS => C_top_seeded w) (h := ?_)
   refine ww ?_
   refine nq ?_
   refine rtn ?_
   refine q_then_ret ?_
   refine q_ret (hR := ?_)
   exact fun w hS => ⟨rfl, hS.sub slz_⟩
  ·
   have hrk : rkB x.ns x.lots L = true := by simpa using h11
   refine skp ?_
   refine q_seq ?_
   refine sr ?_
   refine ww ?_
   refine cl (hc := fun w hS => C_rkDraw x.ns x.lots L x3.1 x.C x3.2 x.cc w (rkP_prd hx3 (by omega) (by omega) (hS.get rdz_) (hS.get rdz_))) (h := fun x5 _ => ?_)
   iterate 5 refine ww ?_
   refine nr ?_
   refine ww ?_
   refine cl (hc := fun w hS => C_rkDraw x.ns x.lots L x4.1 x.C x4.2 x.cc w (rkP_prd hx4 (by omega) (by omega) (hS.get rdz_) (hS.get rdz_))) (h := fun x6 _ => ?_)
   iterate 5 refine ww ?_
   refine nq ?_
   refine sq ?_
   refine sr ?_
   iterate 2 refine ww ?_
   refine wy ((Yd.fl (neq) (by simp))) ?_
   refine ww ?_
   iterate 4 refine uw ?_
   refine uz ?_
   refine wy ((Yd.fl (neq) (by simp))) ?_
   refine ww ?_
   refine nq ?_
   refine cdF (h := ?_)
   refine skp ?_
   refine q_seq ?_
   iterate 2 refine sq ?_
   refine WC.room (A := x5.1) (k := (drwP (rkP x.ns x.lots L)).1.length) atz_ (fun hroom => ?_)
   refine rg ?_
   refine ww ?_
   refine nq ?_
   refine bk ?_
   refine lp (X := Nat) (I := fun k => k ≤ (drwP (rkP x.ns x.lots L)).1.length) (le := fun k => [(18, .slice x5.1 (drwP (rkP x.ns x.lots L)).1.length x5.2), (20, .slice x6.1 (drwP (rkP x.ns x.lots L)).1.length x6.2), (22, .int .i64 k)]) (Le := fun _ => [.own x5.1 x5.2 3 1 (drwP (rkP x.ns x.lots L)).1.length (enI (drwP (rkP x.ns x.lots L)).1), .own x6.1 x6.2 3 1 (drwP (rkP x.ns x.lots L)).1.length (enI (drwP (rkP x.ns x.lots L)).1)]) (μ := fun k => (drwP (rkP x.ns x.lots L)).1.length - k) 0 (Nat.zero_le _) sbz_ slz_ (fun k hk => ?_)
   refine sq ?_
   refine sr ?_
   iterate 4 refine ww ?_
   refine nq ?_
   refine czz (fun h13 => ?_) fun h13 => ?_
   ·
    have hkn : k < (drwP (rkP x.ns x.lots L)).1.length := by have := of_decide_eq_true h13; omega
    obtain ⟨y, hy⟩ : ∃ y, (drwP (rkP x.ns x.lots L)).1[k]? = some y := ⟨_, List.getElem?_eq_getElem hkn⟩
    refine skp ?_
    refine q_seq ?_
    refine sq ?_
    refine bk ?_
    refine sq ?_
    refine rgD0 (by kernel_rfl) (h := ?_)
    refine tw 0 ?_
    refine tw 1 ?_
    refine tk 2 (hy := ix (A := x5.1) (m := (drwP (rkP x.ns x.lots L)).1.length)) (h := ?_)
    refine tk 3 (hy := ldE (A := x5.1) (hk := enI_at hy)) (h := ?_)
    refine tw 4 ?_
    refine tw 5 ?_
    refine tk 6 (hy := ix (A := x6.1) (m := (drwP (rkP x.ns x.lots L)).1.length)) (h := ?_)
    refine tk 7 (hy := ldE (A := x6.1) (hk := enI_at hy)) (h := ?_)
    refine tk 8 (hy := (Yd.fl (neq) (by simp))) (h := ?_)
    refine dn (h := ?_)
    refine q_seq ?_
    refine cdF (h := ?_)
    refine skp ?_
    refine q_blk_norm ?_
    refine q_seq ?_
    refine rg ?_
    iterate 3 refine ww ?_
    refine nl ?_
    refine rn (x := k) (k + 1) hkn (by omega) sbz_ slz_
   ·
    refine et ?_
    iterate 2 refine q_then_exit ?_
    refine q_blk_hit ?_
    refine q_seq ?_
    refine sr ?_
    refine cl0 (hc := fun w hS => C_top_seeded w) (h := ?_)
    refine ww ?_
    refine nq ?_
    refine rtn ?_
    refine q_ret (hR := ?_)
    exact fun w hS => ⟨rfl, hS.sub slz_⟩
end Go.Proofs.YthkliiifllhacaaGreat
