/- The texts of the walk, part 4. -/
import Derived.Test.YthkliiifllhacaaGreatJ3
import Derived.Maps.RangeRun
namespace Go.Proofs.YthkliiifllhacaaGreat
open Go Go.RowKit

def idxs (n : Nat) : List Int := (List.range n).map fun i : Nat => (i : Int)
theorem idxs_succ (n : Nat) : idxs (n + 1) = idxs n ++ [(n : Int)] := by simp [idxs, List.range_succ]
theorem idxs_len (n : Nat) : (idxs n).length = n := by simp [idxs]
theorem idxs_mem {n : Nat} {x : Int} : x ∈ idxs n ↔ 0 ≤ x ∧ x < n := by
 simp only [idxs, List.mem_map, List.mem_range]
 constructor
 ·
  rintro ⟨i, hi, rfl⟩; omega
 ·
  intro h; exact ⟨x.toNat, by omega, by omega⟩
def rkV (p : Pl) : List Int := -1 :: sortV (ltP p) (idxs p.ps.length)
theorem rk_len (p : Pl) : (rkV p).length = p.ps.length + 1 := by
 rw [rkV, List.length_cons, sortV, sortTo_len _ _ _ (Nat.le_refl _), idxs_len]
theorem rk_mem {p : Pl} {x : Int} : x ∈ rkV p ↔ InP p x := by
 rw [rkV, List.mem_cons, sortV_mem, idxs_mem]; rfl
def drawsV (p : Pl) : List (List Int) := moreV p (rkV p) p.size.toNat [] (byesV p)
abbrev itL (p : Pl) (a : PA) (bp br : Nat) (rA : Option Addr) (rc : Nat) : List Ent := [.blk bp 37 (p.cells a), .blk br 26 [.slice rA (p.ps.length + 1) rc], .own rA rc 3 1 (p.ps.length + 1) (enI (rkV p)), .ro a.pA 3 p.ps.length (encPs p.ps), .ro a.lA 1 p.lots.length (enI p.lots)]
abbrev moL (lb bp by_ br bm : Nat) : List Ent := [.blk by_ 209 [.func (.yield lb) #[] #[]], .blk bm 210 [.func (.func 120) #[] #[.pointer (some ⟨bp, 0, none⟩), .pointer (some ⟨by_, 0, none⟩), .pointer (some ⟨br, 0, none⟩), .pointer (some ⟨bm, 0, none⟩)]]]
structure MRD (Y : Type) where
 (r : Bool) (y : Y) (sp : List Value)
abbrev Rounds {Y : Type} (p : Pl) (D : List (List Int)) (ψ : Nat → Y → Prop) (J : Nat → Y → List Ent) (ψx : Y → Prop) (Jx : Y → List Ent) (Lp : List Ent) (w0 : World) (lb : Nat) : Prop :=
 ∀ (R : List Ent) (k : Nat) (x : Option Addr × Nat) (y : Y) (w : World), k < D.length → True → ψ k y → St w0 w ([.own x.1 x.2 3 1 p.size.toNat (enI (D.getD k []))] ++ (Lp ++ (J k y ++ R))) → RoundOf Tryz.prog lb [.slice x.1 p.size.toNat x.2] w (RR ψ (fun k y => J k y ++ R) ψx (fun y => Jx y ++ R) Lp w0 k)
abbrev moreArgs (g : Nat) (n S : Nat) (byes : Int) (bp by_ br bm : Nat) : List Value := [.slice (some ⟨g, 0, none⟩) n S, .int .i64 byes] ++ [.pointer (some ⟨bp, 0, none⟩), .pointer (some ⟨by_, 0, none⟩), .pointer (some ⟨br, 0, none⟩), .pointer (some ⟨bm, 0, none⟩)]
abbrev MoreOk {Y : Type} (p : Pl) (D : List (List Int)) (ψ : Nat → Y → Prop) (J : Nat → Y → List Ent) (ψx : Y → Prop) (Jx : Y → List Ent) (Lp : List Ent) (w0 : World) (lb g bp by_ br bm : Nat) (f : Nat) : Prop :=
 ∀ (l : List Int) (byes : Int) (sp : List Value) (k0 : Nat) (y : Y) (w : World), (l.length : Int) + f = p.size → sp.length = f → (0 ≤ byes ∧ byes ≤ 100) → (∀ x ∈ l, InP p x) →
  (∀ (j : Nat) (v : List Int), (moreV p (rkV p) f l byes)[j]? = some v → D[k0 + j]? = some v) → ψ k0 y → St w0 w (.blk g 3 (l.map vI ++ sp) :: (moL lb bp by_ br bm ++ (Lp ++ J k0 y))) →
  Calls Tryz.prog 120 (moreArgs g l.length p.size.toNat byes bp by_ br bm).toArray w fun e w' => ∃ z : MRD Y, (z.sp.length = f ∧ cond z.r (ψ (k0 + (moreV p (rkV p) f l byes).length) z.y) (ψx z.y)) ∧ e = .returned (.bool z.r) ∧
   St w0 w' (.blk g 3 (l.map vI ++ z.sp) :: (moL lb bp by_ br bm ++ (Lp ++ cond z.r (J (k0 + (moreV p (rkV p) f l byes).length) z.y) (Jx z.y))))
theorem At.left {e : Ent} {A M : List Ent} (h : At A e M) (B : List Ent) : At (A ++ B) e (M ++ B) := by
 induction h with
 | here => exact .here
 | there _ ih => exact .there ih
theorem SubL.app_nil : ∀ (A : List Ent), SubL A (A ++ [])
 | A => by rw [List.append_nil]; exact SubL.refl _
theorem SubL.rot : ∀ (R A : List Ent), SubL (A ++ R) (R ++ A)
 | R, [] => SubL.app_nil R
 | R, a :: A => SubL.cons (At.app R A) (SubL.rot R A)
theorem SubL.back (R A B : List Ent) : SubL (A ++ (B ++ R)) (R ++ (A ++ B)) := by
 rw [← List.append_assoc]; exact SubL.rot R (A ++ B)
theorem SubL.front (R A B : List Ent) : SubL (R ++ (A ++ B)) (A ++ (B ++ R)) := by
 rw [← List.append_assoc A]; exact SubL.rot (A ++ B) R
section
variable {Y : Type} (p : Pl) (a : PA) (hq : p.Ok) (hpn : p.ps.length ≤ 9223372036854775807) (hln : p.lots.length ≤ 9223372036854775807) (hpc : p.ps.length ≤ a.pc) (D : List (List Int)) (ψ : Nat → Y → Prop) (J : Nat → Y → List Ent) (ψx : Y → Prop) (Jx : Y → List Ent) (w0 : World) (lb g bp by_ br bm : Nat) (rA : Option Addr) (rc : Nat)
set_option maxHeartbeats 2000000 in
include hq in
theorem more_zero (hround : Rounds p D ψ J ψx Jx (itL p a bp br rA rc) w0 lb) : MoreOk p D ψ J ψx Jx (itL p a bp br rA rc) w0 lb g bp by_ br bm 0 := by
 intro l byes sp k0 y w hlen hspl hby hin hD hy hst
 have hz := hq.z
 obtain rfl : sp = [] := List.eq_nil_of_length_eq_zero hspl
 have hB : ∀ w, (Ent.blk g 3 (l.map vI ++ [])).ok w → Rd w (some ⟨g, 0, none⟩) 1 l.length (enI l) := fun w h => rd_blk (pre := []) (sp := []) rfl (by omega) w h
 have hSl : p.size.toNat = l.length := by omega
 have hDl : D[k0]? = some l := hD 0 l rfl
 have hDk : D.getD k0 [] = l := by rw [List.getD_eq_getElem?_getD, hDl]; rfl
 have hkN : k0 < D.length := (List.getElem?_eq_some_iff.1 hDl).1
 refine enM (vs := moreArgs g l.length p.size.toNat byes bp by_ br bm) Tryz.func120 Tryz.ntmps120 hst (h := ?_)
 refine sr ?_
 refine ww ?_
 refine nr ?_
 iterate 3 refine ww ?_
 refine nq ?_
 refine sq ?_
 refine sr ?_
 iterate 4 refine ww ?_
 refine nq ?_
 refine czz (fun h0 => ?_) fun h0 => ?_
 ·
  refine sq ?_
  refine rgD (by kernel_rfl) [(1000000, .blk by_ 209 [.func (.yield lb) #[] #[]])] (by repeat (first | exact HS.nil | (apply HS.keep; (repeat (first | exact At.here | apply At.there))) | (apply HS.ro; (repeat (first | exact Rds.ro | exact Rds.own | apply Rds.there))))) (h := ?_)
  refine tw 0 ?_
  refine tw 1 ?_
  refine one 2 (h := ?_)
  refine cl (hc := fun w hS => C_CloneInts (some ⟨g, 0, none⟩) l.length p.size.toNat (enI l) w (hS.get (Rds.any hB)) (by omega)) (h := fun x0 _ => ?_)
  refine nx (h := ?_)
  refine one 3 (h := ?_)
  refine yl (lb := lb) (Z := Bool × Y) (Φ := fun r => cond r.1 (ψ (k0 + 1) r.2) (ψx r.2)) (val := fun r => .bool r.1) (post := fun r => .blk g 3 (l.map vI ++ []) :: (moL lb bp by_ br bm ++ (itL p a bp br rA rc ++ cond r.1 (J (k0 + 1) r.2) (Jx r.2)))) (by exact rfl) (by repeat (first | exact Evs.nil | (apply Evs.cons; exact rfl))) rfl (fun w hS => ?_) (fun r hr => ?_)
  ·
   have hround := hround (.blk g 3 (l.map vI ++ []) :: moL lb bp by_ br bm) k0 x0 y w hkN trivial hy
   rw [hDk, hSl] at hround
   obtain ⟨fn, tmps, asg, bo, hy2, hR⟩ := hround (hS.sub (SubL.cons .here (SubL.back (.blk g 3 (l.map vI ++ []) :: moL lb bp by_ br bm) _ _)))
   refine ⟨fn, tmps, asg, bo, hy2, hR.mono fun e w' he => ?_⟩
   rcases he with ⟨rfl, y, hy, hs⟩ | ⟨rfl, y, hy, hs⟩
   ·
    exact ⟨(true, y), hy, rfl, hs.sub (SubL.front (.blk g 3 (l.map vI ++ []) :: moL lb bp by_ br bm) _ _)⟩
   ·
    exact ⟨(false, y), hy, rfl, hs.sub (SubL.front (.blk g 3 (l.map vI ++ []) :: moL lb bp by_ br bm) _ _)⟩
  refine nx (h := ?_)
  refine tw 4 ?_
  refine dn (h := ?_)
  refine q_seq ?_
  refine rtn ?_
  refine q_then_ret ?_
  refine q_retM0 (hR := ?_)
  obtain ⟨rb, ry⟩ := r
  exact fun w hS => ⟨⟨rb, ry, []⟩, ⟨rfl, hr⟩, rfl, hS⟩
 ·
  exfalso
  simp only [decide_eq_false_iff_not] at h0
  omega
structure MoZ (Y : Type) where
 (i : Nat) (y : Y) (sp : List Value)
def stepV (p : Pl) (f : Nat) (l : List Int) (byes n : Int) : List (List Int) := bif skipV p l byes n then [] else moreV p (rkV p) f (l ++ [n]) (leftB byes n)
def cntVD (p : Pl) (f : Nat) (l : List Int) (byes : Int) (i : Nat) : Nat := (((rkV p).take i).flatMap (stepV p f l byes)).length
omit Y in
theorem cnt_succ {f : Nat} {l : List Int} {byes n : Int} {i : Nat} (h : (rkV p)[i]? = some n) : cntVD p f l byes (i + 1) = cntVD p f l byes i + (stepV p f l byes n).length := by
 unfold cntVD
 rw [List.take_add_one, h, List.flatMap_append, List.length_append]
 simp
omit Y in
theorem more_at {f : Nat} {l : List Int} {byes n : Int} {i : Nat} (h : (rkV p)[i]? = some n) {j : Nat} {v : List Int} (hj : (stepV p f l byes n)[j]? = some v) : (moreV p (rkV p) (f + 1) l byes)[cntVD p f l byes i + j]? = some v := by
 have hi := (List.getElem?_eq_some_iff.1 h).1
 have hs : rkV p = (rkV p).take i ++ n :: (rkV p).drop (i + 1) := by
  have hd := List.drop_eq_getElem_cons hi
  rw [(List.getElem?_eq_some_iff.1 h).2] at hd
  rw [← hd, List.take_append_drop]
 have hm : moreV p (rkV p) (f + 1) l byes = (rkV p).flatMap (stepV p f l byes) := rfl
 rw [hm]
 conv => lhs; rw [hs]
 rw [List.flatMap_append, List.flatMap_cons, List.getElem?_append_right (by unfold cntVD; omega)]
 have e : cntVD p f l byes i + j - (((rkV p).take i).flatMap (stepV p f l byes)).length = j := by unfold cntVD; omega
 rw [e, List.getElem?_append_left (List.getElem?_eq_some_iff.1 hj).1]
 exact hj
set_option maxRecDepth 100000 in
set_option maxHeartbeats 4000000 in
include hq hpn hln hpc in
theorem more_succ (f : Nat) (ih : MoreOk p D ψ J ψx Jx (itL p a bp br rA rc) w0 lb g bp by_ br bm f) : MoreOk p D ψ J ψx Jx (itL p a bp br rA rc) w0 lb g bp by_ br bm (f + 1) := by
 intro l byes sp k0 y w hlen hspl hby hin hD hy hst
 have hz := hq.z
 have hqn := hq.n
 have hrl := rk_len p
 have hB : ∀ sp : List Value, ∀ w, (Ent.blk g 3 (l.map vI ++ sp)).ok w → Rd w (some ⟨g, 0, none⟩) 1 l.length (enI l) := fun sp w h => rd_blk (pre := []) (sp := sp) rfl (by omega) w h
 refine enM (vs := moreArgs g l.length p.size.toNat byes bp by_ br bm) Tryz.func120 Tryz.ntmps120 hst (h := ?_)
 refine sr ?_
 refine ww ?_
 refine nr ?_
 iterate 3 refine ww ?_
 refine nq ?_
 refine sq ?_
 refine sr ?_
 iterate 4 refine ww ?_
 refine nq ?_
 refine czz (fun h0 => ?_) fun h0 => ?_
 ·
  exfalso
  simp only [decide_eq_true_eq] at h0
  omega
 ·
  refine skp ?_
  refine q_seq ?_
  refine sq ?_
  refine sr ?_
  iterate 3 refine ww ?_
  refine nq ?_
  refine bk ?_
  refine lp (X := MoZ Y) (I := fun z => z.i ≤ (rkV p).length ∧ z.sp.length = f + 1 ∧ ψ (k0 + cntVD p f l byes z.i) z.y) (le := fun z => [(0, .slice (some ⟨g, 0, none⟩) l.length p.size.toNat), (1, .int .i64 byes), (2, .pointer (some ⟨bp, 0, none⟩)), (3, .pointer (some ⟨by_, 0, none⟩)), (4, .pointer (some ⟨br, 0, none⟩)), (5, .pointer (some ⟨bm, 0, none⟩)), (9, .int .i64 l.length), (23, .slice rA (p.ps.length + 1) rc), (24, .int .i64 ((rkV p).length : Int)), (25, .int .i64 z.i)]) (Le := fun z => .blk g 3 (l.map vI ++ z.sp) :: (moL lb bp by_ br bm ++ (itL p a bp br rA rc ++ J (k0 + cntVD p f l byes z.i) z.y))) (μ := fun z => (rkV p).length - z.i) ⟨0, y, sp⟩ ⟨Nat.zero_le _, hspl, hy⟩ (by
   rw [hrl]
   repeat (first | exact trivial | refine ⟨rfl, ?_⟩)) (SubL.refl _) (fun z hz => ?_)
  obtain ⟨hz1, hz2, hz3⟩ := hz
  refine sr ?_
  refine ww ?_
  refine nq ?_
  refine sq ?_
  refine czz (fun h1 => ?_) fun h1 => ?_
  ·
   have hkn : z.i < (rkV p).length := by simp only [decide_eq_true_eq] at h1; omega
   obtain ⟨n, hn1⟩ : ∃ n, (rkV p)[z.i]? = some n := ⟨_, List.getElem?_eq_getElem hkn⟩
   have hne := enI_at hn1
   have hnr := rk_mem.1 (List.mem_of_getElem? hn1)
   have hcs := cnt_succ p (f := f) (l := l) (byes := byes) hn1
   refine skp ?_
   refine q_seq ?_
   refine sq ?_
   refine bk ?_
   refine sr ?_
   refine wy (ix (A := rA) (m := p.ps.length + 1)) ?_
   refine wy (ldE (A := rA) (hk := hne)) ?_
   refine ww ?_
   refine nr ?_
   iterate 2 refine ww ?_
   refine nq ?_
   refine ct (X := Unit) (fun _ => True) (fun _ => [(0, .slice (some ⟨g, 0, none⟩) l.length p.size.toNat), (1, .int .i64 byes), (2, .pointer (some ⟨bp, 0, none⟩)), (3, .pointer (some ⟨by_, 0, none⟩)), (4, .pointer (some ⟨br, 0, none⟩)), (5, .pointer (some ⟨bm, 0, none⟩)), (9, .int .i64 l.length), (11, .int .i64 n), (12, .int .i64 (leftB byes n)), (23, .slice rA (p.ps.length + 1) rc), (24, .int .i64 ((rkV p).length : Int)), (25, .int .i64 z.i)]) (fun _ => .blk g 3 (l.map vI ++ z.sp) :: (moL lb bp by_ br bm ++ (itL p a bp br rA rc ++ J (k0 + cntVD p f l byes z.i) z.y))) (h1 := ?_) (h2 := ?_)
   ·
    refine sr ?_
    iterate 2 refine ww ?_
    refine nq ?_
    refine czz (fun h2 => ?_) fun h2 => ?_
    ·
     have hlf : leftB byes n = byes - 1 := by rw [leftB, h2]; rfl
     refine rg ?_
     iterate 3 refine ww ?_
     refine nl ?_
     exact ctn () trivial (by rw [hlf]; repeat (first | exact trivial | refine ⟨rfl, ?_⟩)) (SubL.refl _)
    ·
     have hlf : leftB byes n = byes := by rw [leftB, h2]; rfl
     refine skp ?_
     exact ctn () trivial (by rw [hlf]; repeat (first | exact trivial | refine ⟨rfl, ?_⟩)) (SubL.refl _)
   rintro ⟨⟩ -
   refine sq ?_
   refine ct (X := Bool) (fun s => s = skipV p l byes n) (fun s => [(0, .slice (some ⟨g, 0, none⟩) l.length p.size.toNat), (1, .int .i64 byes), (2, .pointer (some ⟨bp, 0, none⟩)), (3, .pointer (some ⟨by_, 0, none⟩)), (4, .pointer (some ⟨br, 0, none⟩)), (5, .pointer (some ⟨bm, 0, none⟩)), (9, .int .i64 l.length), (11, .int .i64 n), (12, .int .i64 (leftB byes n)), (23, .slice rA (p.ps.length + 1) rc), (24, .int .i64 ((rkV p).length : Int)), (25, .int .i64 z.i), (67, .bool s)]) (fun _ => .blk g 3 (l.map vI ++ z.sp) :: (moL lb bp by_ br bm ++ (itL p a bp br rA rc ++ J (k0 + cntVD p f l byes z.i) z.y))) (h1 := ?_) (h2 := ?_)
   ·
    refine rgD (by kernel_rfl) [(1000000, .blk bp 37 (p.cells a)), (1000000, .blk g 3 (l.map vI ++ z.sp))] (by repeat (first | exact HS.nil | (apply HS.keep; (repeat (first | exact At.here | apply At.there))) | (apply HS.ro; (repeat (first | exact Rds.ro | exact Rds.own | apply Rds.there))))) (h := ?_)
    refine tw 0 ?_
    refine tw 1 ?_
    refine tw 2 ?_
    refine brH (g := 36) (by exact rfl) (fun hb3 => ?_) (fun hb3 => ?_)
    ·
     refine tkS 3 (h := ?_)
     refine tkS 4 (h := ?_)
     refine tkS 5 (h := ?_)
     refine tkS 6 (h := ?_)
     refine tkS 7 (h := ?_)
     refine tkS 8 (h := ?_)
     refine tkS 9 (h := ?_)
     refine tw 10 ?_
     refine tw 11 ?_
     refine tkS 12 (h := ?_)
     refine tkS 13 (h := ?_)
     refine tkS 14 (h := ?_)
     refine tkS 15 (h := ?_)
     refine tkS 16 (h := ?_)
     refine tw 17 ?_
     refine tw 18 ?_
     refine tkS 19 (h := ?_)
     refine tkS 20 (h := ?_)
     refine tkS 21 (h := ?_)
     refine tkS 22 (h := ?_)
     refine tkS 23 (h := ?_)
     refine tkS 24 (h := ?_)
     refine tkS 25 (h := ?_)
     refine tkS 26 (h := ?_)
     refine tkS 27 (h := ?_)
     refine tkS 28 (h := ?_)
     refine tkS 29 (h := ?_)
     refine tkS 30 (h := ?_)
     refine tkS 31 (h := ?_)
     refine tkS 32 (h := ?_)
     refine tw 33 ?_
     refine dn (h := ?_)
     refine ctnL _ sbz_ (SubL.refl _) ?_
     simp only [skipV, hasV, *]
     try simp
    ·
     refine tw 3 ?_
     refine tw 4 ?_
     refine tw 5 ?_
     refine brH (g := 39) (by exact rfl) (fun hb4 => ?_) (fun hb4 => ?_)
     ·
      refine tw 6 ?_
      refine tw 7 ?_
      refine one 8 (h := ?_)
      refine uz ?_
      refine cl0 (hc := fun w hS => C_slices_Contains l n (some ⟨g, 0, none⟩) l.length p.size.toNat w (hS.get (Rds.any (hB z.sp))) (by omega)) (h := ?_)
      refine nx (h := ?_)
      refine tw 9 ?_
      refine tw 10 ?_
      refine tw 11 ?_
      refine brH (g := 45) (by exact rfl) (fun hb5 => ?_) (fun hb5 => ?_)
      ·
       refine tkS 12 (h := ?_)
       refine tkS 13 (h := ?_)
       refine tkS 14 (h := ?_)
       refine tkS 15 (h := ?_)
       refine tkS 16 (h := ?_)
       refine tw 17 ?_
       refine tw 18 ?_
       refine tkS 19 (h := ?_)
       refine tkS 20 (h := ?_)
       refine tkS 21 (h := ?_)
       refine tkS 22 (h := ?_)
       refine tkS 23 (h := ?_)
       refine tkS 24 (h := ?_)
       refine tkS 25 (h := ?_)
       refine tkS 26 (h := ?_)
       refine tkS 27 (h := ?_)
       refine tkS 28 (h := ?_)
       refine tkS 29 (h := ?_)
       refine tkS 30 (h := ?_)
       refine tkS 31 (h := ?_)
       refine tkS 32 (h := ?_)
       refine tw 33 ?_
       refine dn (h := ?_)
       refine ctnL _ sbz_ (SubL.refl _) ?_
       simp only [skipV, hasV, *]
       try simp
      ·
       refine tw 12 ?_
       refine tw 13 ?_
       refine tw 14 ?_
       refine one 15 (h := ?_)
       refine uz ?_
       refine cl0 (hc := fun w hS => C_seat p a l.length n hq w ⟨hS.get (by repeat (first | exact Rds.ro | apply Rds.there)), hS.get (by repeat (first | exact Rds.ro | apply Rds.there)), hpn, hln, hpc⟩) (h := ?_)
       refine nx (h := ?_)
       refine tw 16 ?_
       refine tw 17 ?_
       refine tw 18 ?_
       refine brH (g := 52) (by exact rfl) (fun hb6 => ?_) (fun hb6 => ?_)
       ·
        refine tkS 19 (h := ?_)
        refine tkS 20 (h := ?_)
        refine tkS 21 (h := ?_)
        refine tkS 22 (h := ?_)
        refine tkS 23 (h := ?_)
        refine tkS 24 (h := ?_)
        refine tkS 25 (h := ?_)
        refine tkS 26 (h := ?_)
        refine tkS 27 (h := ?_)
        refine tkS 28 (h := ?_)
        refine tkS 29 (h := ?_)
        refine tkS 30 (h := ?_)
        refine tkS 31 (h := ?_)
        refine tkS 32 (h := ?_)
        refine tw 33 ?_
        refine dn (h := ?_)
        refine ctnL _ sbz_ (SubL.refl _) ?_
        simp only [skipV, hasV, *]
        try simp
       ·
        refine tw 19 ?_
        refine tw 20 ?_
        refine tw 21 ?_
        refine tw 22 ?_
        refine brH (g := 56) (by exact rfl) (fun hb7 => ?_) (fun hb7 => ?_)
        ·
         have hk1 : (l.length : Int) % 2 = 1 := of_decide_eq_true hb7
         obtain ⟨x1, hx1⟩ : ∃ x, l[l.length - 1]? = some x := ⟨_, List.getElem?_eq_getElem (by omega)⟩
         have hx1r := hin x1 (List.mem_of_getElem? hx1)
         have hlast : lastV l = x1 := by rw [lastV, List.getLast?_eq_getElem?, hx1]; rfl
         have hx1e : (enI l)[((l.length : Int) - 1).toNat]? = some [.int .i64 x1] := by rw [show ((l.length : Int) - 1).toNat = l.length - 1 by omega]; exact enI_at hx1
         refine tw 23 ?_
         refine tw 24 ?_
         refine tw 25 ?_
         refine tw 26 ?_
         refine tk 27 (hy := ix (A := some ⟨g, 0, none⟩) (m := l.length) (hr := (by repeat (first | exact Rds.any (hB z.sp) | apply Rds.there)))) (h := ?_)
         refine tk 28 (hy := ldE (A := some ⟨g, 0, none⟩) (hr := (by repeat (first | exact Rds.any (hB z.sp) | apply Rds.there))) (hk := hx1e)) (h := ?_)
         refine tw 29 ?_
         refine one 30 (h := ?_)
         refine uz ?_
         refine cl0 (hc := fun w hS => C_match p a x1 n hq hx1r hnr w ⟨hS.get (by repeat (first | exact Rds.ro | apply Rds.there)), hS.get (by repeat (first | exact Rds.ro | apply Rds.there)), hpn, hln, hpc⟩) (h := ?_)
         rw [← hlast]
         refine nx (h := ?_)
         refine tw 31 ?_
         refine tw 32 ?_
         refine tw 33 ?_
         refine dn (h := ?_)
         refine ctnL _ sbz_ (SubL.refl _) ?_
         simp only [skipV, hasV, *]
         try simp
        ·
         refine tkS 23 (h := ?_)
         refine tkS 24 (h := ?_)
         refine tkS 25 (h := ?_)
         refine tkS 26 (h := ?_)
         refine tkS 27 (h := ?_)
         refine tkS 28 (h := ?_)
         refine tkS 29 (h := ?_)
         refine tkS 30 (h := ?_)
         refine tkS 31 (h := ?_)
         refine tw 32 ?_
         refine tw 33 ?_
         refine dn (h := ?_)
         refine ctnL _ sbz_ (SubL.refl _) ?_
         simp only [skipV, hasV, *]
         try simp
     ·
      refine tkS 6 (h := ?_)
      refine tkS 7 (h := ?_)
      refine tkS 8 (h := ?_)
      refine tw 9 ?_
      refine tw 10 ?_
      refine tw 11 ?_
      refine tw 12 ?_
      refine tw 13 ?_
      refine tw 14 ?_
      refine one 15 (h := ?_)
      refine uz ?_
      refine cl0 (hc := fun w hS => C_seat p a l.length n hq w ⟨hS.get (by repeat (first | exact Rds.ro | apply Rds.there)), hS.get (by repeat (first | exact Rds.ro | apply Rds.there)), hpn, hln, hpc⟩) (h := ?_)
      refine nx (h := ?_)
      refine tw 16 ?_
      refine tw 17 ?_
      refine tw 18 ?_
      refine brH (g := 52) (by exact rfl) (fun hb8 => ?_) (fun hb8 => ?_)
      ·
       refine tkS 19 (h := ?_)
       refine tkS 20 (h := ?_)
       refine tkS 21 (h := ?_)
       refine tkS 22 (h := ?_)
       refine tkS 23 (h := ?_)
       refine tkS 24 (h := ?_)
       refine tkS 25 (h := ?_)
       refine tkS 26 (h := ?_)
       refine tkS 27 (h := ?_)
       refine tkS 28 (h := ?_)
       refine tkS 29 (h := ?_)
       refine tkS 30 (h := ?_)
       refine tkS 31 (h := ?_)
       refine tkS 32 (h := ?_)
       refine tw 33 ?_
       refine dn (h := ?_)
       refine ctnL _ sbz_ (SubL.refl _) ?_
       simp only [skipV, hasV, *]
       try simp
      ·
       refine tw 19 ?_
       refine tw 20 ?_
       refine tw 21 ?_
       refine tw 22 ?_
       refine brH (g := 56) (by exact rfl) (fun hb9 => ?_) (fun hb9 => ?_)
       ·
        have hk1 : (l.length : Int) % 2 = 1 := of_decide_eq_true hb9
        obtain ⟨x1, hx1⟩ : ∃ x, l[l.length - 1]? = some x := ⟨_, List.getElem?_eq_getElem (by omega)⟩
        have hx1r := hin x1 (List.mem_of_getElem? hx1)
        have hlast : lastV l = x1 := by rw [lastV, List.getLast?_eq_getElem?, hx1]; rfl
        have hx1e : (enI l)[((l.length : Int) - 1).toNat]? = some [.int .i64 x1] := by rw [show ((l.length : Int) - 1).toNat = l.length - 1 by omega]; exact enI_at hx1
        refine tw 23 ?_
        refine tw 24 ?_
        refine tw 25 ?_
        refine tw 26 ?_
        refine tk 27 (hy := ix (A := some ⟨g, 0, none⟩) (m := l.length) (hr := (by repeat (first | exact Rds.any (hB z.sp) | apply Rds.there)))) (h := ?_)
        refine tk 28 (hy := ldE (A := some ⟨g, 0, none⟩) (hr := (by repeat (first | exact Rds.any (hB z.sp) | apply Rds.there))) (hk := hx1e)) (h := ?_)
        refine tw 29 ?_
        refine one 30 (h := ?_)
        refine uz ?_
        refine cl0 (hc := fun w hS => C_match p a x1 n hq hx1r hnr w ⟨hS.get (by repeat (first | exact Rds.ro | apply Rds.there)), hS.get (by repeat (first | exact Rds.ro | apply Rds.there)), hpn, hln, hpc⟩) (h := ?_)
        rw [← hlast]
        refine nx (h := ?_)
        refine tw 31 ?_
        refine tw 32 ?_
        refine tw 33 ?_
        refine dn (h := ?_)
        refine ctnL _ sbz_ (SubL.refl _) ?_
        simp only [skipV, hasV, *]
        try simp
       ·
        refine tkS 23 (h := ?_)
        refine tkS 24 (h := ?_)
        refine tkS 25 (h := ?_)
        refine tkS 26 (h := ?_)
        refine tkS 27 (h := ?_)
        refine tkS 28 (h := ?_)
        refine tkS 29 (h := ?_)
        refine tkS 30 (h := ?_)
        refine tkS 31 (h := ?_)
        refine tw 32 ?_
        refine tw 33 ?_
        refine dn (h := ?_)
        refine ctnL _ sbz_ (SubL.refl _) ?_
        simp only [skipV, hasV, *]
        try simp
   intro s hs'
   refine czz (fun h10 => ?_) fun h10 => ?_
   ·
    have hsk : skipV p l byes n = true := hs'.symm.trans h10
    have hst0 : stepV p f l byes n = [] := by rw [stepV, hsk]; rfl
    refine et ?_
    refine q_then_exit ?_
    refine q_blk_hit ?_
    refine q_seq ?_
    refine rg ?_
    iterate 2 refine ww ?_
    refine nl ?_
    first
     | (refine rn (x := z) ⟨z.i + 1, z.y, z.sp⟩ ⟨by dsimp only; omega, hz2, by dsimp only; rw [hcs, hst0]; exact hz3⟩ (by dsimp only; omega) sbz_ (by dsimp only; rw [hcs, hst0]; exact SubL.refl _))
     | (refine rn (x := z) ⟨z.i + 1, ry, .int .i64 n :: rsp⟩ ⟨by dsimp only; omega, by simp only [List.length_cons]; exact congrArg (· + 1) hr1, by dsimp only; rw [hnxt]; exact hr2⟩ (by dsimp only; omega) sbz_ (by
       dsimp only
       rw [hnxt]
       have e : l.map vI ++ .int .i64 n :: rsp = (l ++ [n]).map vI ++ rsp := by rw [List.map_append, List.append_assoc]; rfl
       rw [e]
       exact SubL.refl _))
   ·
    have hsk : skipV p l byes n = false := hs'.symm.trans h10
    have hst0 : stepV p f l byes n = moreV p (rkV p) f (l ++ [n]) (leftB byes n) := by rw [stepV, hsk]; rfl
    have hl0 : 0 ≤ leftB byes n := by
     simp only [skipV, Bool.or_eq_false_iff, decide_eq_false_iff_not] at hsk
     omega
    have hl1 : leftB byes n ≤ 100 := by unfold leftB; cases decide (n = -1) <;> simp only [cond_true, cond_false] <;> omega
    obtain ⟨s0, sp1, hsp1⟩ : ∃ s0 sp1, z.sp = s0 :: sp1 := by
     cases hh : z.sp with
     | nil => rw [hh] at hz2; simp at hz2
     | cons s t => exact ⟨s, t, rfl⟩
    have hcs2 : (l.map vI ++ z.sp).set l.length (.int .i64 n) = (l ++ [n]).map vI ++ sp1 := by
     rw [hsp1, List.set_append_right _ _ (by simp), List.length_map, Nat.sub_self, List.set_cons_zero, List.map_append, List.append_assoc]; rfl
    have hspl1 : sp1.length = f := by rw [hsp1] at hz2; simpa using hz2
    refine skp ?_
    refine q_seq ?_
    refine sq ?_
    refine rgD (by kernel_rfl) [(1000000, .blk bm 210 [.func (.func 120) #[] #[.pointer (some ⟨bp, 0, none⟩), .pointer (some ⟨by_, 0, none⟩), .pointer (some ⟨br, 0, none⟩), .pointer (some ⟨bm, 0, none⟩)]])] (by repeat (first | exact HS.nil | (apply HS.keep; (repeat (first | exact At.here | apply At.there))) | (apply HS.ro; (repeat (first | exact Rds.ro | exact Rds.own | apply Rds.there))))) (h := ?_)
    refine tw 0 ?_
    refine tw 1 ?_
    refine tw 2 ?_
    refine tw 5 ?_
    refine one 3 (h := ?_)
    refine bs (h := fun b0 => ?_)
    refine nx (h := ?_)
    refine one 4 (h := ?_)
    refine apIn (g := g) (m := l.length) (c := p.size.toNat) (v := .int .i64 n) (ha := atz_) (hr := (by repeat (first | exact Rds.own | apply Rds.there))) (hroom := by omega) (hlen := by rw [List.length_append, List.length_map, hz2]; omega) (h := ?_)
    rw [hcs2]
    refine nx (h := ?_)
    refine one 6 (h := ?_)
    refine clX (f := 120) inferInstance (fi := []) (cap := [.pointer (some ⟨bp, 0, none⟩), .pointer (some ⟨by_, 0, none⟩), .pointer (some ⟨br, 0, none⟩), .pointer (some ⟨bm, 0, none⟩)]) (by exact rfl) (by repeat (first | exact Evs.nil | (apply Evs.cons; exact rfl))) (fun w hS => by
     have hc := ih (l ++ [n]) (leftB byes n) sp1 (k0 + cntVD p f l byes z.i) z.y w (by rw [List.length_append]; simp; omega) hspl1 ⟨hl0, hl1⟩ (fun x hx => by
      rcases List.mem_append.1 hx with hx | hx
      ·
       exact hin x hx
      ·
       simp only [List.mem_singleton] at hx; subst hx; exact hnr) (fun j v hj => by
      rw [← hst0] at hj
      have := hD _ _ (more_at p hn1 hj)
      rwa [← Nat.add_assoc] at this) hz3 (hS.sub slz_)
     rw [List.length_append] at hc
     exact hc) (by rfl) (h := fun r hr => ?_)
    refine nx (h := ?_)
    refine tw 7 ?_
    refine dn (h := ?_)
    refine q_seq ?_
    refine czz (fun h11 => ?_) fun h11 => ?_
    ·
     obtain ⟨rb, ry, rsp⟩ := r
     obtain rfl : rb = false := by simpa using h11
     obtain ⟨hr1, hr2⟩ := hr
     refine sr ?_
     refine ww ?_
     refine nq ?_
     refine rtn ?_
     refine q_blk_ret ?_
     iterate 2 refine q_then_ret ?_
     refine q_blk_ret ?_
     refine q_then_ret ?_
     refine q_retM0 (hR := ?_)
     exact fun w hS => ⟨⟨false, ry, .int .i64 n :: rsp⟩, ⟨by simp only [List.length_cons]; exact congrArg (· + 1) hr1, hr2⟩, rfl, by
      have e : l.map vI ++ .int .i64 n :: rsp = (l ++ [n]).map vI ++ rsp := by rw [List.map_append, List.append_assoc]; rfl
      rw [e]; exact hS⟩
    ·
     obtain ⟨rb, ry, rsp⟩ := r
     obtain rfl : rb = true := by simpa using h11
     obtain ⟨hr1, hr2⟩ := hr
     have hnxt : k0 + cntVD p f l byes (z.i + 1) = k0 + cntVD p f l byes z.i + (moreV p (rkV p) f (l ++ [n]) (leftB byes n)).length := by rw [hcs, hst0]; omega
     refine skp ?_
     refine q_blk_norm ?_
     refine q_seq ?_
     refine rg ?_
     iterate 2 refine ww ?_
     refine nl ?_
     first
      | (refine rn (x := z) ⟨z.i + 1, z.y, z.sp⟩ ⟨by dsimp only; omega, hz2, by dsimp only; rw [hcs, hst0]; exact hz3⟩ (by dsimp only; omega) sbz_ (by dsimp only; rw [hcs, hst0]; exact SubL.refl _))
      | (refine rn (x := z) ⟨z.i + 1, ry, .int .i64 n :: rsp⟩ ⟨by dsimp only; omega, by simp only [List.length_cons]; exact congrArg (· + 1) hr1, by dsimp only; rw [hnxt]; exact hr2⟩ (by dsimp only; omega) sbz_ (by
        dsimp only
        rw [hnxt]
        have e : l.map vI ++ .int .i64 n :: rsp = (l ++ [n]).map vI ++ rsp := by rw [List.map_append, List.append_assoc]; rfl
        rw [e]
        exact SubL.refl _))
  ·
   have hkn : z.i = (rkV p).length := by simp only [decide_eq_false_iff_not] at h1; omega
   have hfin : k0 + cntVD p f l byes z.i = k0 + (moreV p (rkV p) (f + 1) l byes).length := by rw [hkn]; unfold cntVD; rw [List.take_length]; rfl
   refine et ?_
   iterate 2 refine q_then_exit ?_
   refine q_blk_hit ?_
   refine q_seq ?_
   refine sr ?_
   refine ww ?_
   refine nq ?_
   refine rtn ?_
   refine q_retM0 (hR := ?_)
   exact fun w hS => ⟨⟨true, z.y, z.sp⟩, ⟨hz2, by rw [← hfin]; exact hz3⟩, rfl, by rw [← hfin]; exact hS⟩
end
end Go.Proofs.YthkliiifllhacaaGreat

namespace Go.Proofs.YthkliiifllhacaaGreat
open Go Go.RowKit

theorem more_all {Y : Type} (p : Pl) (a : PA) (hq : p.Ok) (hpn : p.ps.length ≤ 9223372036854775807) (hln : p.lots.length ≤ 9223372036854775807) (hpc : p.ps.length ≤ a.pc) (D : List (List Int)) (ψ : Nat → Y → Prop) (J : Nat → Y → List Ent) (ψx : Y → Prop) (Jx : Y → List Ent) (w0 : World) (lb g bp by_ br bm : Nat) (rA : Option Addr) (rc : Nat)
  (hround : Rounds p D ψ J ψx Jx (itL p a bp br rA rc) w0 lb) : ∀ f, MoreOk p D ψ J ψx Jx (itL p a bp br rA rc) w0 lb g bp by_ br bm f
 | 0 => more_zero p a hq D ψ J ψx Jx w0 lb g bp by_ br bm rA rc hround
 | f + 1 => more_succ p a hq hpn hln hpc D ψ J ψx Jx w0 lb g bp by_ br bm rA rc f (more_all p a hq hpn hln hpc D ψ J ψx Jx w0 lb g bp by_ br bm rA rc hround f)
theorem flatten_ones (v : Value) : ∀ n : Nat, (List.replicate n [v]).flatten.length = n
 | 0 => rfl
 | n + 1 => by rw [List.replicate_succ, List.flatten_cons, List.length_append, flatten_ones v n]; simp; omega
set_option maxHeartbeats 1000000 in
theorem It_draws (p : Pl) (a : PA) (hq : p.Ok) (hpn : p.ps.length ≤ 9223372036854775807) (hln : p.lots.length ≤ 9223372036854775807) (hpc : p.ps.length ≤ a.pc) (bp br : Nat) (rA : Option Addr) (rc : Nat) :
  It2 Tryz.prog 119 (fun y => [] ++ [y] ++ [.pointer (some ⟨bp, 0, none⟩), .pointer (some ⟨br, 0, none⟩)]) (itL p a bp br rA rc) (drawsV p).length (fun _ (_ : Option Addr × Nat) => True) (fun _ x => [.slice x.1 p.size.toNat x.2]) (fun k x => [.own x.1 x.2 3 1 p.size.toNat (enI ((drawsV p).getD k []))]) := by
 refine ⟨fun {Y} ψ J ψx Jx w0 w lb y0 h0 hst hround => ?_⟩
 have hz := hq.z
 have hqn := hq.n
 have hS : p.size = (p.size.toNat : Int) := by omega
 refine enM (vs := [.func (.yield lb) #[] #[], .pointer (some ⟨bp, 0, none⟩), .pointer (some ⟨br, 0, none⟩)]) Tryz.func119 Tryz.ntmps119 hst (h := ?_)
 refine sr ?_
 refine bx (h := fun b0 => ?_)
 refine nr ?_
 refine al (h := fun b1 => ?_)
 refine nr ?_
 refine ww ?_
 first | refine st (h := ?_) | refine stE (h := ?_)
 refine nq ?_
 refine rgD (by kernel_rfl) [(1000000, .blk b1 210 [.func (.func 120) #[] #[.pointer (some ⟨bp, 0, none⟩), .pointer (some ⟨b0, 0, none⟩), .pointer (some ⟨br, 0, none⟩), .pointer (some ⟨b1, 0, none⟩)]]), (1000000, .blk bp 37 (p.cells a))] (by repeat (first | exact HS.nil | (apply HS.keep; (repeat (first | exact At.here | apply At.there))) | (apply HS.ro; (repeat (first | exact Rds.ro | exact Rds.own | apply Rds.there))))) (h := ?_)
 refine tw 0 ?_
 refine tw 1 ?_
 refine tw 2 ?_
 refine tw 4 ?_
 refine tw 5 ?_
 refine tw 6 ?_
 refine tw 7 ?_
 refine tw 8 ?_
 refine tw 9 ?_
 refine one 3 (h := ?_)
 refine mkc p.size.toNat (hy := by show some (Value.int .i64 p.size) = some (Value.int .i64 ((p.size.toNat : Nat) : Int)); rw [← hS]) (h := fun g => ?_)
 refine nx (h := ?_)
 refine one 10 (h := ?_)
 refine clX (f := 120) inferInstance (fi := []) (cap := [.pointer (some ⟨bp, 0, none⟩), .pointer (some ⟨b0, 0, none⟩), .pointer (some ⟨br, 0, none⟩), .pointer (some ⟨b1, 0, none⟩)]) (by exact rfl) (by repeat (first | exact Evs.nil | (apply Evs.cons; exact rfl))) (fun w hS2 => more_all p a hq hpn hln hpc (drawsV p) ψ J ψx Jx w0 lb g bp b0 br b1 rA rc (fun R k x y w hk hφ hy hs => hround R k x y w hk hφ hy hs) p.size.toNat [] (p.size - p.ps.length) (List.replicate p.size.toNat [.int .i64 0]).flatten 0 y0 w (by simp; omega) (flatten_ones _ _) (by omega) (fun x hx => by cases hx) (fun j v hj => by rw [Nat.zero_add]; exact hj) h0 (hS2.sub slz_)) (by rfl) (h := fun r hr => ?_)
 refine nx (h := ?_)
 refine dn (h := ?_)
 refine q_endM0 (hR := ?_)
 obtain ⟨rb, ry, rsp⟩ := r
 obtain ⟨hr1, hr2⟩ := hr
 cases rb
 ·
  exact fun w hS => ⟨_, rfl, .inr ⟨ry, hr2, hS.sub (by dsimp only [cond_false]; repeat (first | exact SubL.refl _ | apply SubL.skip))⟩⟩
 ·
  rw [Nat.zero_add] at hr2
  exact fun w hS => ⟨_, rfl, .inl ⟨ry, hr2, by
   simp only [Nat.zero_add] at hS
   exact hS.sub (by dsimp only [cond_true]; repeat (first | exact SubL.refl _ | apply SubL.skip))⟩⟩
structure DrX where
 (bp br : Nat) (rA : Option Addr) (rc : Nat)
set_option maxHeartbeats 1000000 in
theorem C_draws (p : Pl) (a : PA) (hq : p.Ok) (w : World) (h : PRd w p a) : CR Tryz.prog 77 [p.val a] w (fun _ : DrX => True) (fun x => .func (.func 119) #[] #[.pointer (some ⟨x.bp, 0, none⟩), .pointer (some ⟨x.br, 0, none⟩)]) (fun x => [.blk x.bp 37 (p.cells a), .blk x.br 26 [.slice x.rA (p.ps.length + 1) x.rc], .own x.rA x.rc 3 1 (p.ps.length + 1) (enI (rkV p))]) := by
 obtain ⟨hp, hl, hpn, hln, hpc⟩ := h
 have hz := hq.z
 have hqn := hq.n
 refine ⟨en Tryz.func77 Tryz.ntmps77 (((St.init w).share (e := .ro a.pA 3 p.ps.length (encPs p.ps)) hp rfl rfl rfl).share (e := .ro a.lA 1 p.lots.length (enI p.lots)) hl rfl rfl rfl) (h := fun F => ?_)⟩
 refine sr ?_
 refine bxA (h := fun b0 => ?_)
 refine ww ?_
 refine nr ?_
 refine al (h := fun b1 => ?_)
 refine nq ?_
 iterate 2 refine sq ?_
 refine WC.nilOwn 3 1 (h := ?_)
 refine rg ?_
 iterate 4 refine ww ?_
 refine nq ?_
 refine bk ?_
 refine lp (X := ShZ) (I := fun z => z.k ≤ p.ps.length) (le := fun z => [(1, .pointer (some ⟨b0, 0, none⟩)), (3, .pointer (some ⟨b1, 0, none⟩)), (7, .int .i64 p.ps.length), (8, .int .i64 z.k)]) (Le := fun z => .blk b1 26 [.slice z.A z.k z.c] :: .own z.A z.c 3 1 z.k (enI (idxs z.k)) :: plL p a b0) (μ := fun z => p.ps.length - z.k) ⟨0, none, 0⟩ (Nat.zero_le _) sbz_ slz_ (fun z hz => ?_)
 refine sr ?_
 refine ww ?_
 refine nq ?_
 refine sq ?_
 refine czz (fun h0 => ?_) fun h0 => ?_
 ·
  have hkn : z.k < p.ps.length := by simp only [decide_eq_true_eq] at h0; omega
  have hst : enI (idxs (z.k + 1)) = enI (idxs z.k) ++ [[.int .i64 (z.k : Int)]] := by rw [idxs_succ, enI_app]
  refine skp ?_
  refine q_seq ?_
  refine sq ?_
  refine bk ?_
  refine sr ?_
  iterate 2 refine ww ?_
  refine nq ?_
  refine rg ?_
  iterate 2 refine ww ?_
  refine bs (h := fun b2 => ?_)
  first | refine ap (h := fun A1 c1 => ?_) | refine ap0 (h := fun A1 c1 => ?_)
  first | refine st (h := ?_) | refine stE (h := ?_)
  refine nl ?_
  refine q_blk_norm ?_
  refine q_seq ?_
  refine rg ?_
  iterate 2 refine ww ?_
  refine nl ?_
  refine rn (x := z) ⟨z.k + 1, _, _⟩ (by dsimp only; omega) (by dsimp only; omega) sbz_ (by dsimp only; rw [hst]; repeat (first | exact SubL.nil | (apply SubL.cons; (repeat (first | exact At.here | apply At.there))) | exact SubL.refl _ | apply SubL.skip))
 ·
  have hkn : z.k = p.ps.length := by simp only [decide_eq_false_iff_not] at h0; omega
  rw [hkn]
  refine et ?_
  iterate 2 refine q_then_exit ?_
  refine q_blk_hit ?_
  refine q_seq ?_
  refine sr ?_
  iterate 2 refine ww ?_
  refine clT (hc := T_SortFunc p a b0 hq (idxs p.ps.length) z.A p.ps.length z.c (idxs_len _) (by omega) (fun x hx => idxs_mem.1 hx)) (hs := (by repeat (first | exact Spl.nil | (apply Spl.cons; (repeat (first | exact At.here | apply At.there)))))) (h := fun _ _ => ?_)
  refine nr ?_
  refine bs (h := fun b3 => ?_)
  refine ww ?_
  first | refine ap (h := fun A2 c2 => ?_) | refine ap0 (h := fun A2 c2 => ?_)
  first | refine st (h := ?_) | refine stE (h := ?_)
  refine nr ?_
  iterate 2 refine ww ?_
  refine nq ?_
  refine rtn ?_
  refine q_ret (hR := ?_)
  have e1 : (1 : Nat) + p.ps.length = p.ps.length + 1 := by omega
  have e2 : [[Value.int .i64 (-1)]] ++ enI (sortV (ltP p) (idxs p.ps.length)) = enI (rkV p) := rfl
  exact fun w hS => ⟨⟨_, _, _, _⟩, trivial, rfl, by
   rw [e1, e2] at hS
   exact hS.sub slz_⟩
end Go.Proofs.YthkliiifllhacaaGreat

namespace Go.Proofs.YthkliiifllhacaaGreat
open Go Go.RowKit

theorem flatMap_len {α : Type} (xs : List α) (G : α → List (List Int)) (B : Nat) (h : ∀ x ∈ xs, (G x).length ≤ B) : (xs.flatMap G).length ≤ xs.length * B := by
 induction xs with
 | nil => simp
 | cons x xs ih =>
  rw [List.flatMap_cons, List.length_append, List.length_cons, Nat.succ_mul]
  have := h x (by simp)
  have := ih fun y hy => h y (List.mem_cons_of_mem _ hy)
  omega
theorem more_len (p : Pl) : ∀ (f : Nat) (l : List Int) (byes : Int), (moreV p (rkV p) f l byes).length ≤ (rkV p).length ^ f
 | 0, _, _ => by simp [moreV]
 | f + 1, l, byes => by
  rw [moreV, Nat.pow_succ, Nat.mul_comm]
  refine flatMap_len _ _ _ fun n _ => ?_
  cases skipV p l byes n
  ·
   exact more_len p f _ _
  ·
   simp
theorem draws_len {p : Pl} (hq : p.Ok) : (drawsV p).length ≤ 43046721 := by
 have h := more_len p p.size.toNat [] (byesV p)
 have hz := hq.z
 have hn := hq.n
 rw [rk_len] at h
 refine Nat.le_trans h (Nat.le_trans (Nat.pow_le_pow_left (show p.ps.length + 1 ≤ 9 by omega) _) (Nat.le_trans (Nat.pow_le_pow_right (by omega) (show p.size.toNat ≤ 8 by omega)) ?_))
 decide
theorem more_mem {p : Pl} : ∀ (f : Nat) (l : List Int) (byes : Int), (∀ x ∈ l, InP p x) → ∀ v ∈ moreV p (rkV p) f l byes, v.length = l.length + f ∧ ∀ x ∈ v, InP p x
 | 0, l, _, hl, v, hv => by
  rw [moreV, List.mem_singleton] at hv
  subst hv; exact ⟨rfl, hl⟩
 | f + 1, l, byes, hl, v, hv => by
  rw [moreV, List.mem_flatMap] at hv
  obtain ⟨n, hn, hv⟩ := hv
  cases hs : skipV p l byes n
  ·
   rw [hs] at hv
   have := more_mem f (l ++ [n]) (leftB byes n) (fun x hx => by
    rcases List.mem_append.1 hx with hx | hx
    ·
     exact hl x hx
    ·
     simp only [List.mem_singleton] at hx; subst hx; exact rk_mem.1 hn) v hv
   rw [List.length_append] at this
   exact ⟨by have := this.1; simp at this; omega, this.2⟩
  ·
   rw [hs] at hv; cases hv
theorem draws_mem {p : Pl} (hq : p.Ok) {v : List Int} (hv : v ∈ drawsV p) : v.length = p.size.toNat ∧ ∀ x ∈ v, InP p x := by
 have := more_mem p.size.toNat [] (byesV p) (fun x hx => by cases hx) v hv
 simpa using this
def cntN (p : Pl) : Int := bif pOk p then (drawsV p).length else 0
set_option maxHeartbeats 1000000 in
theorem C_dr_Count (p : Pl) (a : PA) (hz0 : -9223372036854775808 ≤ p.size ∧ p.size ≤ 9223372036854775807) (w : World) (h : PRd w p a) : C0 Tryz.prog 36 [p.val a] w (.tuple #[.int .i64 (cntN p), .int .i64 (chkP p)]) := by
 obtain ⟨hp, hl, hpn, hln, hpc⟩ := h
 refine ⟨enM Tryz.func36 Tryz.ntmps36 (((St.init w).share (e := .ro a.pA 3 p.ps.length (encPs p.ps)) hp rfl rfl rfl).share (e := .ro a.lA 1 p.lots.length (enI p.lots)) hl rfl rfl rfl) (h := ?_)⟩
 refine sr ?_
 refine bxA (h := fun b0 => ?_)
 iterate 2 refine ww ?_
 refine nq ?_
 refine sq ?_
 refine sr ?_
 refine ww ?_
 refine cl0 (hc := fun w hS => C_dr_Check p a hz0 w ⟨hS.get, hS.get, hpn, hln, hpc⟩) (h := ?_)
 refine ww ?_
 refine nr ?_
 iterate 2 refine ww ?_
 refine nq ?_
 refine czz (fun h0 => ?_) fun h0 => ?_
 ·
  have hb := chkP_no h0
  have hE : cntN p = 0 := by rw [cntN, hb]; rfl
  refine sr ?_
  iterate 3 refine ww ?_
  refine nq ?_
  refine rtn ?_
  refine q_then_ret ?_
  refine q_retM0 (hR := ?_)
  rw [hE]
  exact fun w hS => ⟨rfl, hS.sub slz_⟩
 ·
  obtain ⟨hq, hb⟩ := chkP_ok h0
  have hE : cntN p = (drawsV p).length := by rw [cntN, hb]; rfl
  have hE2 : chkP p = 0 := by rw [chkP, hb]; rfl
  have hN := draws_len hq
  refine skp ?_
  refine q_seq ?_
  refine sr ?_
  refine al (h := fun b1 => ?_)
  first | refine st (h := ?_) | refine stE (h := ?_)
  refine nq ?_
  refine sq ?_
  refine sr ?_
  refine ww ?_
  refine cl (hc := fun w hS => C_draws p a hq w ⟨hS.get, hS.get, hpn, hln, hpc⟩) (h := fun x0 _ => ?_)
  refine nq ?_
  refine bk ?_
  refine rf2 (f := 119) inferInstance (fun k (_ : Unit) => True) (fun k _ => [.blk b1 3 [.int .i64 k], .blk b0 37 (p.cells a)]) (fun _ => False) (fun _ => .skip) (fun _ => []) () (It_draws p a hq hpn hln hpc x0.bp x0.br x0.rA x0.rc) (by exact rfl) (fun _ _ => rfl) (by rfl) trivial slz_ (fun R fn tmps lb rb k x y hk hφ hy => ?_) (fun rb y hy => ?_) (fun _ _ h => h.elim)
  ·
   refine skp ?_
   refine bgn (h := ?_)
   refine bk ?_
   refine rg ?_
   iterate 2 refine ww ?_
   first | refine st (h := ?_) | refine stE (h := ?_)
   refine nl ?_
   refine q_blk_norm ?_
   refine rdN (y := ()) trivial (hs := slz_)
  refine q_blk_norm ?_
  refine q_seq ?_
  refine sr ?_
  iterate 3 refine ww ?_
  refine nq ?_
  refine rtn ?_
  refine q_retM (hR := ?_)
  rw [hE, hE2]
  exact fun w hS => ⟨rfl, hS.sub slz_⟩
def pickL (p : Pl) (n : Int) : List Int × Bool := match (drawsV p)[n.toNat]? with
 | some l => (l.map (plyV p), true)
 | none => ([], false)
set_option maxHeartbeats 2000000 in
theorem C_pick (p : Pl) (a : PA) (n : Int) (hq : p.Ok) (hn : 0 ≤ n ∧ n ≤ 9223372036854775807) (w : World) (h : PRd w p a) : CR Tryz.prog 37 [p.val a, .int .i64 n] w (fun _ : Option Addr × Nat => True) (fun x => .tuple #[.slice x.1 (pickL p n).1.length x.2, .bool (pickL p n).2]) (fun x => [.own x.1 x.2 3 1 (pickL p n).1.length (enI (pickL p n).1)]) := by
 obtain ⟨hp, hl, hpn, hln, hpc⟩ := h
 have hz := hq.z
 have hN := draws_len hq
 refine ⟨enM Tryz.func37 Tryz.ntmps37 (((St.init w).share (e := .ro a.pA 3 p.ps.length (encPs p.ps)) hp rfl rfl rfl).share (e := .ro a.lA 1 p.lots.length (enI p.lots)) hl rfl rfl rfl) (h := ?_)⟩
 refine sr ?_
 refine bxA (h := fun b0 => ?_)
 refine bx (h := fun b1 => ?_)
 refine al (h := fun b2 => ?_)
 refine al (h := fun b3 => ?_)
 refine nq ?_
 refine sq ?_
 refine sr ?_
 refine ww ?_
 refine cl (hc := fun w hS => C_draws p a hq w ⟨hS.get, hS.get, hpn, hln, hpc⟩) (h := fun x0 _ => ?_)
 refine nq ?_
 refine bk ?_
 refine rf2 (f := 119) inferInstance (fun k (_ : Option Addr × Nat) => (k : Int) ≤ n) (fun k _ => [.blk b1 3 [.int .i64 (n - (k : Int))], .blk b2 26 [.slice none 0 0], .blk b3 4 [.bool false], .blk b0 37 (p.cells a)]) (fun _ => n.toNat < (drawsV p).length) (fun _ => .ret) (fun y => [.blk b2 26 [.slice y.1 p.size.toNat y.2], .blk b3 4 [.bool true], .own y.1 y.2 3 1 p.size.toNat (enI (((drawsV p).getD n.toNat []).map (plyV p)))]) (none, 0) (It_draws p a hq hpn hln hpc x0.bp x0.br x0.rA x0.rc) (by exact rfl) (fun _ _ => rfl) (by rfl) (by omega) (by rw [show n - ((0 : Nat) : Int) = n by omega]; repeat (first | exact SubL.nil | (apply SubL.cons; (repeat (first | exact At.here | apply At.there))) | exact SubL.refl _ | apply SubL.skip)) (fun R fn tmps lb rb k x y hk hφ hy => ?_) (fun rb y hy => ?_) (fun rb y hy => ?_)
 ·
  obtain ⟨v, hv⟩ : ∃ v, (drawsV p)[k]? = some v := ⟨_, List.getElem?_eq_getElem hk⟩
  have hvm := draws_mem hq (List.mem_of_getElem? hv)
  have hvd : (drawsV p).getD k [] = v := by rw [List.getD_eq_getElem?_getD, hv]; rfl
  rw [hvd]
  refine rg ?_
  refine ww ?_
  refine nl ?_
  refine bgn (h := ?_)
  refine bk ?_
  refine sq ?_
  refine sr ?_
  iterate 2 refine ww ?_
  refine nq ?_
  refine czz (fun h0 => ?_) fun h0 => ?_
  ·
   have hkn : n.toNat = k := by have := of_decide_eq_true h0; omega
   refine sr ?_
   iterate 2 refine ww ?_
   refine cl (hc := fun w hS => C_sheet p a v x.1 p.size.toNat x.2 hvm.1 (by omega) hvm.2 w ⟨hS.get (by repeat (first | exact Rds.ro | apply Rds.there)), hS.get (by repeat (first | exact Rds.ro | apply Rds.there)), hpn, hln, hpc⟩ (hS.get (by repeat (first | exact Rds.own | apply Rds.there)))) (h := fun x1 _ => ?_)
   first | refine st (h := ?_) | refine stE (h := ?_)
   first | refine st (h := ?_) | refine stE (h := ?_)
   refine nq ?_
   refine rtn ?_
   refine q_then_ret ?_
   refine q_blk_ret ?_
   refine rdRet (y := x1) (by omega) (hs := by rw [hkn, hvd]; repeat (first | exact SubL.nil | (apply SubL.cons; (repeat (first | exact At.here | apply At.there))) | exact SubL.refl _ | apply SubL.skip))
  ·
   have hkn : (k : Int) < n := by have := of_decide_eq_false h0; omega
   refine skp ?_
   refine q_seq ?_
   refine rg ?_
   iterate 2 refine ww ?_
   first | refine st (h := ?_) | refine stE (h := ?_)
   refine nl ?_
   refine q_blk_norm ?_
   refine rdN (y := (none, 0)) (by omega) (hs := by rw [show n - (((k + 1 : Nat)) : Int) = n - (k : Int) - 1 by omega]; repeat (first | exact SubL.nil | (apply SubL.cons; (repeat (first | exact At.here | apply At.there))) | exact SubL.refl _ | apply SubL.skip))
 ·
  have hE : pickL p n = ([], false) := by rw [pickL, List.getElem?_eq_none (by omega)]
  refine q_blk_norm ?_
  refine q_seq ?_
  refine sq ?_
  refine WC.nilOwn 3 1 (h := ?_)
  refine rg ?_
  first | refine st (h := ?_) | refine stE (h := ?_)
  first | refine st (h := ?_) | refine stE (h := ?_)
  refine nq ?_
  refine rtn ?_
  refine q_retM (hR := ?_)
  rw [hE]
  exact fun w hS => ⟨(none, 0), trivial, rfl, hS.sub slz_⟩
 ·
  have hE : pickL p n = (((drawsV p).getD n.toNat []).map (plyV p), true) := by rw [pickL, List.getElem?_eq_getElem hy, List.getD_eq_getElem?_getD, List.getElem?_eq_getElem hy]; rfl
  have hlen : (((drawsV p).getD n.toNat []).map (plyV p)).length = p.size.toNat := by
   rw [List.length_map, List.getD_eq_getElem?_getD, List.getElem?_eq_getElem hy]
   exact (draws_mem hq (List.getElem_mem hy)).1
  refine rtn ?_
  refine q_blk_ret ?_
  refine q_then_ret ?_
  refine q_retM (hR := ?_)
  rw [hE]
  dsimp only
  rw [hlen]
  exact fun w hS => ⟨y, trivial, rfl, hS.sub slz_⟩
def sumID : List Int → Int
 | [] => 0
 | x :: xs => x + sumID xs
theorem sumI_take {xs : List Int} : ∀ {k : Nat} {x : Int}, xs[k]? = some x → sumID (xs.take (k + 1)) = sumID (xs.take k) + x := by
 induction xs with
 | nil => intro k x h; simp at h
 | cons y ys ih =>
  intro k x h
  cases k with
  | zero => simp at h; subst h; simp [sumID]
  | succ k =>
   simp only [List.take_succ_cons, sumID]
   rw [ih (by simpa using h)]; omega
theorem sumI_rng {xs : List Int} (h : ∀ n ∈ xs, 0 ≤ n ∧ n ≤ 999999) : 0 ≤ sumID xs ∧ sumID xs ≤ 999999 * xs.length := by
 induction xs with
 | nil => simp [sumID]
 | cons y ys ih =>
  have h1 := h y (by simp)
  have h2 := ih fun n hn => h n (List.mem_cons_of_mem _ hn)
  simp only [sumID, List.length_cons]
  omega
def drwP (p : Pl) : List Int × Int := bif !pOk p then ([], 60) else bif decide (((drawsV p).length : Int) = 0) then ([], 3) else ((pickL p (sumID p.lots % (drawsV p).length)).1, 0)
structure IZA where
 (k : Nat)
set_option maxHeartbeats 1000000 in
theorem C_dr_Draw (p : Pl) (a : PA) (hz0 : -9223372036854775808 ≤ p.size ∧ p.size ≤ 9223372036854775807) (w : World) (h : PRd w p a) : CR Tryz.prog 11 [p.val a] w (fun _ : Option Addr × Nat => True) (fun x => .tuple #[.slice x.1 (drwP p).1.length x.2, .int .i64 (drwP p).2]) (fun x => [.own x.1 x.2 3 1 (drwP p).1.length (enI (drwP p).1)]) := by
 obtain ⟨hp, hl, hpn, hln, hpc⟩ := h
 refine ⟨en Tryz.func11 Tryz.ntmps11 (((St.init w).share (e := .ro a.pA 3 p.ps.length (encPs p.ps)) hp rfl rfl rfl).share (e := .ro a.lA 1 p.lots.length (enI p.lots)) hl rfl rfl rfl) (h := fun F => ?_)⟩
 refine sr ?_
 refine bxA (h := fun b0 => ?_)
 iterate 2 refine ww ?_
 refine nr ?_
 refine ww ?_
 refine cl0 (hc := fun w hS => C_dr_Count p a hz0 w ⟨hS.get, hS.get, hpn, hln, hpc⟩) (h := ?_)
 iterate 5 refine ww ?_
 refine nq ?_
 refine sq ?_
 refine sr ?_
 iterate 2 refine ww ?_
 refine nq ?_
 refine czz (fun h0 => ?_) fun h0 => ?_
 ·
  have hb := chkP_no h0
  have hE : drwP p = ([], chkP p) := by rw [drwP, chkP, hb]; rfl
  refine WC.nilOwn 3 1 (h := ?_)
  refine sr ?_
  iterate 3 refine ww ?_
  refine nq ?_
  refine rtn ?_
  refine q_then_ret ?_
  refine q_ret (hR := ?_)
  rw [hE]
  exact fun w hS => ⟨(none, 0), trivial, rfl, hS.sub slz_⟩
 ·
  obtain ⟨hq, hb⟩ := chkP_ok h0
  have hcn : cntN p = (drawsV p).length := by rw [cntN, hb]; rfl
  rw [hcn]
  have hN := draws_len hq
  have hll := hq.l
  have hlt := hq.lt
  have hsr := sumI_rng hlt
  refine skp ?_
  refine q_seq ?_
  refine sq ?_
  refine sr ?_
  iterate 2 refine ww ?_
  refine nq ?_
  refine czz (fun h1 => ?_) fun h1 => ?_
  ·
   have hE : drwP p = ([], 3) := by rw [drwP, hb, h1]; rfl
   refine WC.nilOwn 3 1 (h := ?_)
   refine sr ?_
   iterate 2 refine ww ?_
   refine nq ?_
   refine rtn ?_
   refine q_then_ret ?_
   refine q_ret (hR := ?_)
   rw [hE]
   exact fun w hS => ⟨(none, 0), trivial, rfl, hS.sub slz_⟩
  ·
   have hE : drwP p = ((pickL p (sumID p.lots % (drawsV p).length)).1, 0) := by rw [drwP, hb, h1]; rfl
   have hN0 : 0 < (drawsV p).length := by have := of_decide_eq_false h1; omega
   have hmd : 0 ≤ sumID p.lots % ((drawsV p).length : Int) ∧ sumID p.lots % ((drawsV p).length : Int) < (drawsV p).length := ⟨Int.emod_nonneg _ (by omega), Int.emod_lt_of_pos _ (by omega)⟩
   refine skp ?_
   refine q_seq ?_
   refine sr ?_
   refine ww ?_
   refine nq ?_
   refine sq ?_
   refine sr ?_
   iterate 4 refine ww ?_
   refine nq ?_
   refine bk ?_
   refine lp (X := IZA) (I := fun z => z.k ≤ p.lots.length) (le := fun z => [(1, .pointer (some ⟨b0, 0, none⟩)), (4, .int .i64 (drawsV p).length), (6, .int .i64 (sumID (p.lots.take z.k))), (22, .slice a.lA p.lots.length a.lc), (23, .int .i64 p.lots.length), (24, .int .i64 z.k)]) (Le := fun _ => plL p a b0) (μ := fun z => p.lots.length - z.k) ⟨0⟩ (Nat.zero_le _) sbz_ slz_ (fun z hz => ?_)
   refine sr ?_
   refine ww ?_
   refine nq ?_
   refine sq ?_
   refine czz (fun h2 => ?_) fun h2 => ?_
   ·
    have hkn : z.k < p.lots.length := by simp only [decide_eq_true_eq] at h2; omega
    obtain ⟨v, hv⟩ : ∃ v, p.lots[z.k]? = some v := ⟨_, List.getElem?_eq_getElem hkn⟩
    have hve := enI_at hv
    have hst := sumI_take hv
    have hvr := hlt v (List.mem_of_getElem? hv)
    have hsk := sumI_rng (xs := p.lots.take z.k) (fun n hn => hlt n (List.mem_of_mem_take hn))
    rw [List.length_take] at hsk
    refine skp ?_
    refine q_seq ?_
    refine sq ?_
    refine bk ?_
    refine sr ?_
    refine wy (ix (A := a.lA) (m := p.lots.length)) ?_
    refine wy (ldE (A := a.lA) (hk := hve)) ?_
    refine ww ?_
    refine nq ?_
    refine rg ?_
    iterate 4 refine ww ?_
    refine nl ?_
    refine q_blk_norm ?_
    refine q_seq ?_
    refine rg ?_
    iterate 2 refine ww ?_
    refine nl ?_
    refine rn (x := z) ⟨z.k + 1⟩ (by dsimp only; omega) (by dsimp only; omega) (by dsimp only; rw [hst]; repeat (first | exact trivial | refine ⟨rfl, ?_⟩)) slz_
   ·
    have hkn : z.k = p.lots.length := by simp only [decide_eq_false_iff_not] at h2; omega
    rw [hkn, List.take_length]
    refine et ?_
    iterate 2 refine q_then_exit ?_
    refine q_blk_hit ?_
    refine q_seq ?_
    refine sq ?_
    refine rgD0 (by kernel_rfl) (h := ?_)
    refine tw 0 ?_
    refine tw 1 ?_
    refine tw 2 ?_
    refine tw 3 ?_
    refine one 4 (h := ?_)
    refine cl (hc := fun w hS => C_pick p a (sumID p.lots % (drawsV p).length) hq (by omega) w ⟨hS.get (by repeat (first | exact Rds.ro | apply Rds.there)), hS.get (by repeat (first | exact Rds.ro | apply Rds.there)), hpn, hln, hpc⟩) (h := fun x0 _ => ?_)
    refine nx (h := ?_)
    refine tw 5 ?_
    refine tw 6 ?_
    refine tw 7 ?_
    refine tw 8 ?_
    refine tw 9 ?_
    refine dn (h := ?_)
    refine q_seq ?_
    refine sr ?_
    iterate 3 refine ww ?_
    refine nq ?_
    refine rtn ?_
    refine q_ret (hR := ?_)
    rw [hE]
    exact fun w hS => ⟨x0, trivial, rfl, hS.sub slz_⟩
end Go.Proofs.YthkliiifllhacaaGreat

namespace Go.Proofs.YthkliiifllhacaaGreat
open Go Go.RowKit

def exPD : Pl := ⟨4, 1, [⟨10, 1, false⟩, ⟨20, 2, false⟩, ⟨30, 1, false⟩], [5, 4]⟩
def exR : Pl := ⟨4, 0, [⟨1, 1, false⟩, ⟨2, 1, false⟩, ⟨3, 2, false⟩, ⟨4, 0, false⟩], []⟩
theorem ex_draw : drwP exPD = ([10, -1, 30, 20], 0) := by kernel_rfl
structure ExA where
 (A1 A2 A3 : Option Addr)
set_option maxHeartbeats 1000000 in
theorem C_law06_Example (w : World) : CR Tryz.prog 30 [] w (fun _ : ExA => True) (fun x => .tuple #[exPD.val ⟨x.A1, x.A2, 3, 2⟩, exR.val ⟨x.A3, none, 4, 0⟩]) (fun x => [.own x.A1 3 103 3 3 (encPs exPD.ps), .own x.A2 2 3 1 2 (enI exPD.lots), .own x.A3 4 103 3 4 (encPs exR.ps)]) := by
 refine ⟨en Tryz.func30 Tryz.ntmps30 (St.init w) (h := fun F => ?_)⟩
 refine sr ?_
 refine al (h := fun b0 => ?_)
 refine al (h := fun b1 => ?_)
 refine nr ?_
 iterate 3 refine ww ?_
 refine bs (h := fun b2 => ?_)
 refine bs (h := fun b3 => ?_)
 refine ww ?_
 first | refine stA (h := ?_) | refine stEA (h := ?_)
 refine nr ?_
 iterate 4 refine ww ?_
 refine bs (h := fun b4 => ?_)
 refine ww ?_
 first | refine stA (h := ?_) | refine stEA (h := ?_)
 refine nq ?_
 refine sq ?_
 refine rgD0 (by kernel_rfl) (h := ?_)
 refine tw 0 ?_
 refine tw 1 ?_
 refine one 2 (h := ?_)
 first | refine stA (h := ?_) | refine stEA (h := ?_)
 refine nx (h := ?_)
 refine one 3 (h := ?_)
 first | refine stA (h := ?_) | refine stEA (h := ?_)
 refine nx (h := ?_)
 refine dn (h := ?_)
 refine q_seq ?_
 refine rtn ?_
 refine q_ret (hR := ?_)
 exact fun w hS => ⟨⟨_, _, _⟩, trivial, rfl, hS.sub slz_⟩
end Go.Proofs.YthkliiifllhacaaGreat

namespace Go.Proofs.YthkliiifllhacaaGreat
open Go Go.RowKit

end Go.Proofs.YthkliiifllhacaaGreat

namespace Go.Proofs.YthkliiifllhacaaGreat
open Go Go.RowKit

section rules
variable {P : Program} {n : Nat} {D : List Deferred} {l : Env} {w0 : World} {L : List Ent}
end rules
end Go.Proofs.YthkliiifllhacaaGreat

namespace Go.Proofs.YthkliiifllhacaaGreat
open Go Go.RowKit

section
variable {p : Pl} {sheet : List Int}
end
end Go.Proofs.YthkliiifllhacaaGreat

namespace Go.Proofs.YthkliiifllhacaaGreat
open Go Go.RowKit

end Go.Proofs.YthkliiifllhacaaGreat

namespace Go.Proofs.YthkliiifllhacaaGreat
open Go Go.RowKit

structure Chg where
 (s p l : List Int)
structure ChA where
 (s p l : Option Addr) (sc pc lc : Nat)
abbrev Chg.val (x : Chg) (a : ChA) : Value := .agg #[.slice a.s x.s.length a.sc, .slice a.p x.p.length a.pc, .slice a.l x.l.length a.lc]
end Go.Proofs.YthkliiifllhacaaGreat

namespace Go.Proofs.YthkliiifllhacaaGreat
open Go Go.RowKit

structure DP where
 (i j : Nat) (zs : List Ps)
structure DP.Ok (z : DP) (xs : List Ps) (p : Ps → Bool) : Prop where
 lt : z.i < z.j
 le : z.j ≤ xs.length
 len : z.zs.length = xs.length
 tk : z.zs.take z.i = (xs.take z.j).filter (fun x => !p x)
 dr : z.zs.drop z.j = xs.drop z.j
theorem DP.start {xs : List Ps} {p : Ps → Bool} {k : Nat} {x : Ps} (hx : xs[k]? = some x) (hp : p x = true) (hall : ∀ i, i < k → pAt xs p i = false) : DP.Ok ⟨k, k + 1, xs⟩ xs p := by
 have hk : k < xs.length := (List.getElem?_eq_some_iff.1 hx).1
 refine ⟨by dsimp only; omega, by dsimp only; omega, rfl, ?_, rfl⟩
 dsimp only
 rw [List.take_add_one, hx, List.filter_append]
 have : List.filter (fun x => !p x) (List.take k xs) = List.take k xs := List.filter_eq_self.2 fun y hy => by
  obtain ⟨i, hi, rfl⟩ := List.getElem_of_mem hy
  have hi' : i < k ∧ i < xs.length := by rw [List.length_take] at hi; omega
  have := hall i hi'.1
  rw [pAt_eq (s := xs[i]) (List.getElem?_eq_getElem hi'.2)] at this
  simp [this]
 rw [this]; simp [hp]
theorem DP.at_ {z : DP} {xs : List Ps} {p : Ps → Bool} (h : z.Ok xs p) {x : Ps} (hx : z.zs[z.j]? = some x) : x ∈ xs := by
 have := congrArg (fun l : List Ps => l[0]?) h.dr
 simp only [List.getElem?_drop, Nat.add_zero] at this
 rw [hx] at this
 exact List.mem_of_getElem? this.symm
theorem DP.keep {z : DP} {xs : List Ps} {p : Ps → Bool} (h : z.Ok xs p) {x : Ps} (hx : z.zs[z.j]? = some x) (hj : z.j < xs.length) (hp : p x = false) : DP.Ok ⟨z.i + 1, z.j + 1, z.zs.set z.i x⟩ xs p := by
 have hx' : xs[z.j]? = some x := by
  have := congrArg (fun l : List Ps => l[0]?) h.dr
  simp only [List.getElem?_drop, Nat.add_zero] at this
  rw [← this]; exact hx
 have hl := h.len
 have hlt := h.lt
 refine ⟨by dsimp only; omega, by dsimp only; omega, by simpa using hl, ?_, ?_⟩
 ·
  dsimp only
  rw [List.take_add_one, List.take_set_of_le (Nat.le_refl _), h.tk, List.take_add_one, hx', List.filter_append, List.getElem?_set_self (by omega)]; simp [hp]
 ·
  dsimp only
  rw [List.drop_set_of_lt (by omega), ← List.drop_drop, h.dr, List.drop_drop]
theorem DP.fin {z : DP} {xs : List Ps} {p : Ps → Bool} (h : z.Ok xs p) (hj : z.j = xs.length) : z.zs.take z.i = xs.filter fun x => !p x := by
 rw [h.tk, hj, List.take_length]
end Go.Proofs.YthkliiifllhacaaGreat

namespace Go.Proofs.YthkliiifllhacaaGreat
open Go Go.RowKit

end Go.Proofs.YthkliiifllhacaaGreat

namespace Go.Proofs.YthkliiifllhacaaGreat
open Go Go.RowKit

section
variable {sheet players lucky : List Int}
end
end Go.Proofs.YthkliiifllhacaaGreat

namespace Go.Proofs.YthkliiifllhacaaGreat
open Go Go.RowKit

end Go.Proofs.YthkliiifllhacaaGreat

namespace Go.Proofs.YthkliiifllhacaaGreat
open Go Go.RowKit

theorem getD_some {l : List Int} {k : Nat} (h : k < l.length) : l[k]? = some (l.getD k 0) := by
 rw [List.getD_eq_getElem?_getD, List.getElem?_eq_getElem h]; rfl
end Go.Proofs.YthkliiifllhacaaGreat

namespace Go.Proofs.YthkliiifllhacaaGreat
open Go Go.RowKit

end Go.Proofs.YthkliiifllhacaaGreat

namespace Go.Proofs.YthkliiifllhacaaGreat
open Go Go.RowKit

section
variable {p : Pl}
end
end Go.Proofs.YthkliiifllhacaaGreat

namespace Go.Proofs.YthkliiifllhacaaGreat
open Go Go.RowKit

section
variable {p : Pl}
end
end Go.Proofs.YthkliiifllhacaaGreat

namespace Go.Proofs.YthkliiifllhacaaGreat
open Go Go.RowKit

end Go.Proofs.YthkliiifllhacaaGreat

namespace Go.Proofs.YthkliiifllhacaaGreat
open Go Go.RowKit

section
variable {p : Pl}
end
end Go.Proofs.YthkliiifllhacaaGreat

namespace Go.Proofs.YthkliiifllhacaaGreat
open Go Go.RowKit

end Go.Proofs.YthkliiifllhacaaGreat

namespace Go.Proofs.YthkliiifllhacaaGreat
open Go Go.RowKit

def Stm (es : Array MapEntry) (c : Nat) : Prop := (es.toList.map (·.born)).Nodup ∧ ∀ e ∈ es.toList, e.born < c
theorem stm0 : Stm #[] 0 := ⟨List.nodup_nil, fun e he => by simp at he⟩
theorem stm_push {es : Array MapEntry} {c : Nat} (h : Stm es c) (k v : Value) : Stm (es.push { key := k, val := v, born := c }) (c + 1) := by
 constructor
 ·
  rw [Array.toList_push, List.map_append, List.map_cons, List.map_nil, List.nodup_append]
  refine ⟨h.1, List.nodup_cons.2 ⟨by simp, List.nodup_nil⟩, fun a ha b hb => ?_⟩
  obtain ⟨e, he, rfl⟩ := List.mem_map.1 ha
  rw [List.mem_singleton] at hb
  have h3 := h.2 e he
  rw [hb]
  intro e2
  exact absurd e2 (Nat.ne_of_lt h3)
 ·
  intro e he
  rw [Array.toList_push, List.mem_append, List.mem_singleton] at he
  rcases he with he | rfl
  ·
   have := h.2 e he; omega
  ·
   exact Nat.lt_succ_self _
theorem stm_mod {es : Array MapEntry} {c : Nat} (h : Stm es c) (j : Nat) (k v : Value) : Stm (es.modify j fun e => { e with key := k, val := v }) c := by
 have hb : (es.modify j fun e => { e with key := k, val := v }).toList.map (·.born) = es.toList.map (·.born) := by
  rw [Array.toList_modify]
  refine List.ext_getElem? fun i => ?_
  rw [List.getElem?_map, List.getElem?_map, List.getElem?_modify]
  by_cases e : j = i
  ·
   subst e; simp only [if_pos]; cases es.toList[j]? <;> rfl
  ·
   simp only [if_neg e]; cases es.toList[i]? <;> rfl
 refine ⟨by rw [hb]; exact h.1, fun e he => ?_⟩
 have : e.born ∈ es.toList.map (·.born) := hb ▸ List.mem_map.2 ⟨e, he, rfl⟩
 obtain ⟨e', he', e2⟩ := List.mem_map.1 this
 have := h.2 e' he'
 omega

section rules
variable {F : Fence} {P : Program} {ops : Array Oper} {Q : Exit → Act → World → Prop} {rest : List Oper} {n : Nat} {D : List Deferred} {l : Env} {w0 : World} {L M : List Ent}
variable {d : Nat} {ty : TypeId} {pos : String} {aft : Array Edge}

theorem run_updateS {t kt e : TypeId} {ks : List Bool} (hT : MapTy P t kt e) (hK : FlatTy P kt ks) {w : World} {b : Nat} {es : Array MapEntry} {c : Nat} (hb : w.heap[b]? = some (.map es c)) {kv : List (List Fl × Value)} (hm : MapIs es kv) (hs : ∀ p ∈ kv, shapeOf p.1 = ks) {k : List Fl} (hk : shapeOf k = ks) (v : Value) (hst0 : Stm es c) :
  ∃ es' c', (Instr.mapUpdate t (.map (some b)) (.agg (fv k).toArray) v).run P w = .ok () (w.putObj b (.map es' c')) ∧ MapIs es' (updM kv k v) ∧ Stm es' c' := by
 obtain ⟨r, hr, hc⟩ := run_findKey hK hk es.toList kv w hm hs
 have hck := fun em => checkKeyF em 8 kt ks hK.flt 9992 k w hk
 simp only [fval, hK.agg, cond_true] at hck
 have hck' : ∀ em, (Instr.checkKey em 10000 kt (.agg (fv k).toArray)).run P w = .ok () w := hck
 unfold Instr.mapUpdate
 simp only [Sem.run_bind, run_underlying hT.und, Result.andThen_ok, getMap hb, Sem.run_pure, hck', hr]
 rcases hc with ⟨rfl, h1, h2⟩ | ⟨j, u, e', rfl, h1, h3, h4, h5⟩
 ·
  refine ⟨_, _, putMap _ hb, ?_, stm_push hst0 _ _⟩
  have hm' : es.toList.map (fun e => (e.key, e.val)) = kv.map fun p => (Value.agg (fv p.1).toArray, p.2) := hm
  simp only [MapIs, h2, Array.toList_push, List.map_append, hm', List.map_cons, List.map_nil]
 ·
  have hj : es[j]? = some e' := by simpa using h3
  have hjl : j < es.size := (Array.getElem?_eq_some_iff.1 hj).1
  have hst : (Instr.keyThatStays (.agg (fv k).toArray) (.agg (fv k).toArray)).run P w = .ok (.agg (fv k).toArray) w := by
   simp [Instr.keyThatStays, sameBits_flat]
  simp only [hj, Option.map_some, Option.getD_some, h4, Sem.run_bind, hst, Result.andThen_ok]
  refine ⟨_, _, putMap _ hb, ?_, stm_mod hst0 _ _ _⟩
  have he : (es.modify j fun e => { e with key := .agg (fv k).toArray, val := v }).toList = es.toList.set j { e' with val := v } := by
   rw [Array.toList_modify]
   refine List.ext_getElem? fun i => ?_
   rw [List.getElem?_modify, List.getElem?_set]
   by_cases e : j = i
   ·
    subst e
    have : es.toList[j]? = some e' := h3
    rw [this]
    simp [hjl, ← h4]
   ·
    simp [e]
  rw [MapIs, he]
  exact h5 v
theorem mupS {m x y : Operand} {t kt e : TypeId} {ks : List Bool} (hT : MapTy P t kt e := by infer_instance) (hK : FlatTy P kt ks := by infer_instance) {b : Nat} {es : Array MapEntry} {c : Nat} {kv : List (List Fl × Value)} {cs : List Value} {k : List Fl} {v : Value}
  (hm : MapIs es kv) (hs : ∀ p ∈ kv, shapeOf p.1 = ks) (hst0 : Stm es c) (hx : ev l m = some (.map (some b)) := by exact rfl) (hy : ev l x = some (.agg cs.toArray) := by exact rfl) (hv : ev l y = some v := by exact rfl) (hl : FlL cs k := by repeat (first | exact FlL.nil | apply FlL.int | apply FlL.bool)) (hk : shapeOf k = ks := by rfl)
  (ha : At L (.obj b (.map es c)) M := by repeat (first | exact At.here | apply At.there)) (h : ∀ es' c', MapIs es' (updM kv k v) → Stm es' c' → WL F P ops Q rest n D l w0 (.obj b (.map es' c') :: M)) : WL F P ops Q (⟨none, .mapUpdate t m x y, ty, pos, aft, none⟩ :: rest) n D l w0 L := by
 intro hF a w hfr hst
 have hst1 := hst.pull ha
 obtain ⟨es', c', hr, hm', hs'⟩ := run_updateS (P := P) hT hK hst1.objAt hm hs hk v hst0
 rw [← hl.out] at hr
 have he : (execOp a.eval ⟨none, .mapUpdate t m x y, ty, pos, aft, none⟩).run P w = .ok .skip (w.putObj b (.map es' c')) := by
  simp [execOp, hfr.eval hx, hfr.eval hy, hfr.eval hv, hr]
 show (if _ then _ else _)
 rw [if_pos (by simp [Region.wanted])]
 refine ⟨fun f _ => hF.fn f, ?_⟩
 rw [semAt_plain (by simp), he]
 exact h es' c' hm' hs' hF _ _ (hfr.put_none (.bool true)) (hst1.putObj _)

abbrev KV := Value × Value
def kvOf (e : MapEntry) : KV := (e.key, e.val)
def LastIs (es : Array MapEntry) (seen : Array Nat) (last : Option KV) : Prop := ∀ kv, last = some kv → ∃ (seen' : Array Nat) (e : MapEntry), seen = seen'.push e.born ∧ e ∈ es.toList ∧ kvOf e = kv
def itE (r b : Nat) (es : Array MapEntry) (c : Nat) (todo : List KV) (last : Option KV) : Ent := .gen true true (fun k => k = r) (fun w => ∃ seen, w.heap[r]? = some (.mapIter (some b) c seen c) ∧ todo.Perm ((leftOf es seen).toList.map kvOf) ∧ LastIs es seen last)
 (fun w w' hb ⟨seen, h1, h2⟩ => ⟨seen, (hb r rfl).trans h1, h2⟩) (fun w k ⟨seen, h1, _⟩ hk => by subst hk; exact heap_lt h1)
def roM (b : Nat) (es : Array MapEntry) (c : Nat) : Ent := .gen true false (fun k => k = b) (fun w => w.heap[b]? = some (.map es c)) (fun w w' hb h => (hb b rfl).trans h) (fun w k h hk => by subst hk; exact heap_lt h)
theorem St.toRoM {w0 w : World} {M : List Ent} {b : Nat} {es : Array MapEntry} {c : Nat} (h : St w0 w (.obj b (.map es c) :: M)) : St w0 w (roM b es c :: M) := by
 have hp := List.pairwise_cons.1 h.sep
 refine ⟨h.below, fun x hx => ?_, fun x hx hf k hk => ?_, List.pairwise_cons.2 ⟨fun x hx _ k hk hk' => hp.1 x hx (.inl rfl) k hk hk', hp.2⟩⟩
 ·
  rcases List.mem_cons.1 hx with rfl | hx
  ·
   exact h.ok (.obj b (.map es c)) (by simp)
  ·
   exact h.ok x (by simp [hx])
 ·
  rcases List.mem_cons.1 hx with rfl | hx
  ·
   exact h.new (.obj b (.map es c)) (by simp) rfl k hk
  ·
   exact h.new x (by simp [hx]) hf k hk
theorem St.dupM {w0 w : World} {M : List Ent} {b : Nat} {es : Array MapEntry} {c : Nat} (h : St w0 w (roM b es c :: M)) : St w0 w (roM b es c :: roM b es c :: M) := by
 have hp := List.pairwise_cons.1 h.sep
 refine ⟨h.below, fun x hx => ?_, fun x hx hf k hk => ?_, List.pairwise_cons.2 ⟨fun x hx ho k hk hk' => ?_, h.sep⟩⟩
 ·
  rcases List.mem_cons.1 hx with rfl | hx
  ·
   exact h.ok _ (by simp)
  ·
   exact h.ok x hx
 ·
  rcases List.mem_cons.1 hx with rfl | hx
  ·
   exact h.new _ (by simp) hf k hk
  ·
   exact h.new x hx hf k hk
 ·
  rcases List.mem_cons.1 hx with rfl | hx
  ·
   rcases ho with h1 | h1 <;> cases h1
  ·
   exact hp.1 x hx ho k hk hk'
theorem left_none (es : Array MapEntry) : leftOf es #[] = es := by
 unfold leftOf
 exact Array.filter_eq_self.2 fun a _ => by simp
theorem rngM {x : Operand} {t kt e : TypeId} (hT : MapTy P t kt e := by infer_instance) {b : Nat} {es : Array MapEntry} {c : Nat} (hx : ev l x = some (.map (some b)) := by exact rfl) (ha : At L (roM b es c) M := by repeat (first | exact At.here | apply At.there)) (hd : Nat.blt d n = true := by rfl)
  (h : ∀ r, WL F P ops Q rest n D ((d, .pointer (some ⟨r, 0, none⟩)) :: l) w0 (itE r b es c (es.toList.map kvOf) none :: L)) : WL F P ops Q (⟨some d, .range t x, ty, pos, aft, none⟩ :: rest) n D l w0 L :=
 WL.value (X := Nat) (φ := fun _ => True) (val := fun r => .pointer (some ⟨r, 0, none⟩)) (L' := fun r => itE r b es c (es.toList.map kvOf) none :: L) (by simp) hd (fun a w hfr hst => by
  have hb : w.heap[b]? = some (.map es c) := hst.ok (roM b es c) ha.mem
  have hr := run_range_map (P := P) w t kt e b es c hT.und hb
  have hs := hst.allocObj (.mapIter (some b) c #[] c)
  refine ⟨w.heap.size, _, trivial, by simp [execOp, hfr.eval hx, hr]; rfl, ?_⟩
  refine hs.turn (e' := itE _ b es c _ none) rfl (fun _ _ _ => rfl) rfl rfl rfl (Nat.le_refl _) ⟨#[], ?_, ?_, fun kv h => (by cases h)⟩ (fun k hk => .inl hk)
  ·
   exact heap_alloc_new w _
  ·
   rw [left_none]) (fun r _ => h r)
theorem WC.toRoM {c0 : Code} {b : Nat} {es : Array MapEntry} {c : Nat} (ha : At L (.obj b (.map es c)) M) (h : WC F P c0 Q n D l w0 (roM b es c :: M)) : WC F P c0 Q n D l w0 L := fun hF a w hfr hst => h hF a w hfr (hst.pull ha).toRoM
theorem WL.toRoM {b : Nat} {es : Array MapEntry} {c : Nat} (ha : At L (.obj b (.map es c)) M) (h : WL F P ops Q rest n D l w0 (roM b es c :: M)) : WL F P ops Q rest n D l w0 L := fun hF a w hfr hst => h hF a w hfr (hst.pull ha).toRoM
theorem WC.dupM {c0 : Code} {b : Nat} {es : Array MapEntry} {c : Nat} (ha : At L (roM b es c) M) (h : WC F P c0 Q n D l w0 (roM b es c :: roM b es c :: M)) : WC F P c0 Q n D l w0 L := fun hF a w hfr hst => h hF a w hfr (hst.pull ha).dupM
def nxV : Option KV → Value
 | none => .tuple #[.bool false]
 | some kv => .tuple #[.bool true, kv.1, kv.2]
def NxO (todo : List KV) (o : Option KV) (todo' : List KV) : Prop := match o with
 | none => todo = [] ∧ todo' = []
 | some kv => todo.Perm (kv :: todo')
theorem born_apart {es : List MapEntry} (h : (es.map (·.born)).Nodup) {a b : MapEntry} (ha : a ∈ es) (hb : b ∈ es) (e : a.born = b.born) : a = b := by
 induction es with
 | nil => cases ha
 | cons x es ih =>
  rw [List.map_cons, List.nodup_cons] at h
  rcases List.mem_cons.1 ha with h1 | h1
  ·
   rcases List.mem_cons.1 hb with h2 | h2
   ·
    rw [h1, h2]
   ·
    exact absurd (List.mem_map.2 ⟨b, h2, by rw [← e, h1]⟩) h.1
  ·
   rcases List.mem_cons.1 hb with h2 | h2
   ·
    exact absurd (List.mem_map.2 ⟨a, h1, by rw [e, h2]⟩) h.1
   ·
    exact ih h.2 h1 h2
theorem nodup_of_born {es : List MapEntry} (h : (es.map (·.born)).Nodup) : es.Nodup := by
 induction es with
 | nil => exact List.nodup_nil
 | cons x es ih =>
  rw [List.map_cons, List.nodup_cons] at h
  exact List.nodup_cons.2 ⟨fun hm => h.1 (List.mem_map.2 ⟨x, hm, rfl⟩), ih h.2⟩
theorem left_perm {es : Array MapEntry} (h : (es.toList.map (·.born)).Nodup) {seen : Array Nat} {e : MapEntry} (he : e ∈ (leftOf es seen).toList) : (leftOf es seen).toList.Perm (e :: (leftOf es (seen.push e.born)).toList) := by
 have hnd : (leftOf es seen).toList.Nodup := by
  have : es.toList.Nodup := nodup_of_born h
  unfold leftOf
  rw [Array.toList_filter]
  exact this.filter _
 obtain ⟨hem, hes⟩ := mem_left he
 have hnd2 : (leftOf es (seen.push e.born)).toList.Nodup := by
  have : es.toList.Nodup := nodup_of_born h
  unfold leftOf
  rw [Array.toList_filter]
  exact this.filter _
 have hm : ∀ x : MapEntry, x ∈ (leftOf es (seen.push e.born)).toList ↔ x ∈ es.toList ∧ seen.contains x.born = false ∧ x.born ≠ e.born := fun x => by
  unfold leftOf
  rw [Array.toList_filter, List.mem_filter, contains_push]
  simp
 have hm0 : ∀ x : MapEntry, x ∈ (leftOf es seen).toList ↔ x ∈ es.toList ∧ seen.contains x.born = false := fun x => by
  unfold leftOf
  rw [Array.toList_filter, List.mem_filter]
  simp
 refine (List.perm_ext_iff_of_nodup hnd (List.nodup_cons.2 ⟨fun h2 => ((hm e).1 h2).2.2 rfl, hnd2⟩)).2 fun x => ?_
 rw [hm0, List.mem_cons, hm]
 constructor
 ·
  rintro ⟨h1, h2⟩
  by_cases e2 : x.born = e.born
  ·
   exact .inl (born_apart h h1 hem e2)
  ·
   exact .inr ⟨h1, h2, e2⟩
 ·
  rintro (rfl | ⟨h1, h2, _⟩)
  ·
   exact ⟨hem, hes⟩
  ·
   exact ⟨h1, h2⟩
theorem nxtM {x : Operand} {r b : Nat} {es : Array MapEntry} {c : Nat} {todo : List KV} {last : Option KV} {M' : List Ent} (hs : Stm es c) (hx : ev l x = some (.pointer (some ⟨r, 0, none⟩)) := by exact rfl) (ha : At L (itE r b es c todo last) M := by repeat (first | exact At.here | apply At.there)) (hb : At M (roM b es c) M' := by repeat (first | exact At.here | apply At.there)) (hd : Nat.blt d n = true := by rfl)
  (h : ∀ o todo', NxO todo o todo' → WL F P ops Q rest n D ((d, nxV o) :: l) w0 (itE r b es c todo' o :: M)) : WL F P ops Q (⟨some d, .next x false, ty, pos, aft, none⟩ :: rest) n D l w0 L :=
 WL.value (X := Option KV × List KV) (φ := fun p => NxO todo p.1 p.2) (val := fun p => nxV p.1) (L' := fun p => itE r b es c p.2 p.1 :: M) (by simp) hd (fun a w hfr hst => by
  have hst1 := hst.pull ha
  obtain ⟨seen, h1, h2, h2'⟩ := hst1.ok (itE r b es c todo last) (by simp)
  have h3 : w.heap[b]? = some (.map es c) := hst1.ok (roM b es c) (by simp [hb.mem])
  rcases run_next_at (P := P) w ty r b c c seen es c h1 h3 hs.2 (Nat.le_refl _) with ⟨h0, hrun⟩ | ⟨e, he, w1, hal, hrun⟩
  ·
   have hnil : todo = [] := by
    have : (leftOf es seen).toList = [] := by
     rw [← Array.length_toList] at h0
     exact List.eq_nil_of_length_eq_zero h0
    rw [this, List.map_nil] at h2
    exact h2.eq_nil
   subst hnil
   refine ⟨(none, []), w, ⟨rfl, rfl⟩, ?_, hst1.turn (e' := itE r b es c [] none) rfl (fun _ _ _ => rfl) rfl rfl rfl (Nat.le_refl _) ⟨seen, h1, h2, fun kv h => (by cases h)⟩ (fun k hk => .inl hk)⟩
   simp [execOp, hfr.eval hx, hrun, nxV]
  ·
   have hp := left_perm hs.1 he
   have hem := (mem_left he).1
   have hr1 : w1.heap[r]? = some (.mapIter (some b) c seen c) := by rcases hal with rfl | rfl <;> exact h1
   refine ⟨(some (kvOf e), (leftOf es (seen.push e.born)).toList.map kvOf), _, h2.trans (hp.map kvOf), by simp [execOp, hfr.eval hx, hrun, nxV, kvOf]; rfl, ?_⟩
   have hset := MapKept.heap_set (o' := .mapIter (some b) c (seen.push e.born) c) hr1
   have hw : w1.heap = w.heap ∧ w1.os = w.os ∧ w1.tape = w.tape ∧ w1.output = w.output ∧ w.drawn ≤ w1.drawn := by
    rcases hal with rfl | rfl
    ·
     exact ⟨rfl, rfl, rfl, rfl, Nat.le_refl _⟩
    ·
     exact ⟨rfl, rfl, rfl, rfl, Nat.le_succ _⟩
   refine hst1.turn (w' := ChangeMaps.setBlock w1 r _) (e' := itE r b es c _ (some (kvOf e))) rfl (fun k _ hk => ?_) hw.2.1 hw.2.2.1 hw.2.2.2.1 (by show w.heap.size ≤ (w1.heap.setIfInBounds r _).size; rw [Array.size_setIfInBounds, hw.1]; exact Nat.le_refl _) ⟨seen.push e.born, hset.1, .refl _, fun kv hkv => ⟨seen, e, rfl, hem, Option.some.inj hkv⟩⟩ (fun k hk => .inl hk) hw.2.2.2.2
   rw [← hw.1]; exact hset.2 k (fun e => hk e)) (fun p hp => h p.1 p.2 hp)
theorem entM {x : Operand} {r b : Nat} {es : Array MapEntry} {c : Nat} {todo : List KV} {kv : KV} {M' : List Ent} (hs : Stm es c) (hx : ev l x = some (.pointer (some ⟨r, 0, none⟩)) := by exact rfl) (ha : At L (itE r b es c todo (some kv)) M := by repeat (first | exact At.here | apply At.there)) (hb : At L (roM b es c) M' := by repeat (first | exact At.here | apply At.there)) : Yd P n D l w0 L (.entry x) (.tuple #[kv.1, kv.2]) :=
 ⟨by simp, by simp, fun oo ho ac w hfr hst => by
  obtain ⟨seen, h1, _, h3⟩ := hst _ ha.mem
  have h4 : w.heap[b]? = some (.map es c) := hst _ hb.mem
  obtain ⟨seen', e, rfl, he, rfl⟩ := h3 kv rfl
  have hr := run_entry_at (P := P) w r b c seen' es c e h1 h4 he hs.1
  simp [execOp, ho, hfr.eval hx, hr, kvOf]⟩
theorem exN {x : Operand} {o : Option KV} (hx : ev l x = some (nxV o) := by exact rfl) : Yd P n D l w0 L (.extract x 0) (.bool o.isSome) :=
 ⟨by simp, by simp, fun oo ho ac w hfr _ => by
  cases o <;> simp [execOp, ho, hfr.eval hx, nxV] <;> rfl⟩
end rules

section
variable {w0 w : World} {M : List Ent} {e e1 e2 : Ent}
theorem St.split (h : St w0 w (e :: M)) (hx : e.excl = true) (h1 : e1.ok w) (h2 : e2.ok w) (f1 : ∀ k, e1.fp k → e.fp k) (f2 : ∀ k, e2.fp k → e.fp k) (hd : ∀ k, e1.fp k → e2.fp k → False) : St w0 w (e1 :: e2 :: M) := by
 have hp := List.pairwise_cons.1 h.sep
 refine ⟨h.below, fun x hxm => ?_, fun x hxm hf b hb => ?_, List.pairwise_cons.2 ⟨fun x hxm _ b hb hb' => ?_, List.pairwise_cons.2 ⟨fun x hxm _ b hb hb' => ?_, hp.2⟩⟩⟩
 ·
  rcases List.mem_cons.1 hxm with rfl | hxm
  ·
   exact h1
  rcases List.mem_cons.1 hxm with rfl | hxm
  ·
   exact h2
  ·
   exact h.ok x (by simp [hxm])
 ·
  rcases List.mem_cons.1 hxm with rfl | hxm
  ·
   exact h.new e (by simp) (Ent.fresh_of_excl hx) b (f1 b hb)
  rcases List.mem_cons.1 hxm with rfl | hxm
  ·
   exact h.new e (by simp) (Ent.fresh_of_excl hx) b (f2 b hb)
  ·
   exact h.new x (by simp [hxm]) hf b hb
 ·
  rcases List.mem_cons.1 hxm with rfl | hxm
  ·
   exact hd b hb hb'
  ·
   exact hp.1 x hxm (.inl hx) b (f1 b hb) hb'
 ·
  exact hp.1 x hxm (.inl hx) b (f2 b hb) hb'
theorem St.fuse (h : St w0 w (e1 :: e2 :: M)) (x1 : e1.excl = true) (x2 : e2.excl = true) (ho : e.ok w) (hf : ∀ k, e.fp k → e1.fp k ∨ e2.fp k) : St w0 w (e :: M) := by
 have hp := List.pairwise_cons.1 h.sep
 have hp2 := List.pairwise_cons.1 hp.2
 refine ⟨h.below, fun x hxm => ?_, fun x hxm hf' b hb => ?_, List.pairwise_cons.2 ⟨fun x hxm _ b hb hb' => ?_, hp2.2⟩⟩
 ·
  rcases List.mem_cons.1 hxm with rfl | hxm
  ·
   exact ho
  ·
   exact h.ok x (by simp [hxm])
 ·
  rcases List.mem_cons.1 hxm with rfl | hxm
  ·
   rcases hf b hb with h1 | h1
   ·
    exact h.new e1 (by simp) (Ent.fresh_of_excl x1) b h1
   ·
    exact h.new e2 (by simp) (Ent.fresh_of_excl x2) b h1
  ·
   exact h.new x (by simp [hxm]) hf' b hb
 ·
  rcases hf b hb with h1 | h1
  ·
   exact hp.1 x (by simp [hxm]) (.inl x1) b h1 hb'
  ·
   exact hp2.1 x hxm (.inl x2) b h1 hb'
end
end Go.Proofs.YthkliiifllhacaaGreat

namespace Go.Proofs.YthkliiifllhacaaGreat
open Go Go.RowKit

end Go.Proofs.YthkliiifllhacaaGreat

namespace Go.Proofs.YthkliiifllhacaaGreat
open Go Go.RowKit

end Go.Proofs.YthkliiifllhacaaGreat

namespace Go.Proofs.YthkliiifllhacaaGreat
open Go Go.RowKit

end Go.Proofs.YthkliiifllhacaaGreat

namespace Go.Proofs.YthkliiifllhacaaGreat
open Go Go.RowKit

end Go.Proofs.YthkliiifllhacaaGreat

namespace Go.Proofs.YthkliiifllhacaaGreat
open Go Go.RowKit

end Go.Proofs.YthkliiifllhacaaGreat

namespace Go.Proofs.YthkliiifllhacaaGreat
open Go Go.RowKit

end Go.Proofs.YthkliiifllhacaaGreat

namespace Go.Proofs.YthkliiifllhacaaGreat
open Go Go.RowKit

instance : DecidableEq Brd := fun a b => by
 cases a; cases b
 simp only [Brd.mk.injEq]
 infer_instance
theorem pr_list {p q : Pr} : ([p.1, p.2] = [q.1, q.2]) ↔ p = q := by
 simp only [List.cons.injEq, and_true]
 exact ⟨fun ⟨a, b⟩ => Prod.ext a b, fun h => by rw [h]; exact ⟨rfl, rfl⟩⟩
def exF : Fmt := ⟨2, 2, false, 2, 3, 0, 4, 2, 2, false⟩
def exP : List Int := [0, 0, 0, 0, 1, 1, 1, 1, 0, 0, 0, 0, 0, 0, 0, 0, 1, 1, 1, 1]
theorem C_law1_Example (w : World) : CR Tryz.prog 66 [] w (fun _ : Option Addr × Nat => True) (fun x => .tuple #[exF.val, .slice x.1 20 x.2]) (fun x => [.own x.1 x.2 3 1 20 (encI exP)]) := by
 refine ⟨en Tryz.func66 Tryz.ntmps66 (St.init w) (h := fun F => ?_)⟩
 refine sr ?_
 refine al (h := fun b0 => ?_)
 refine ww ?_
 refine nr ?_
 refine ww ?_
 refine al (h := fun b1 => ?_)
 first | refine stA (h := ?_) | refine stEA (h := ?_)
 refine nr ?_
 refine ww ?_
 refine bs (h := fun b2 => ?_)
 first | refine stA (h := ?_) | refine stEA (h := ?_)
 refine ww ?_
 refine nq ?_
 refine rtn ?_
 refine q_ret (hR := ?_)
 exact fun w hS => ⟨(_, _), trivial, rfl, hS.sub slz_⟩
end Go.Proofs.YthkliiifllhacaaGreat

namespace Go.Proofs.YthkliiifllhacaaGreat
open Go Go.RowKit

theorem C_ref1_within (n lo hi : Int) (w : World) : C0 Tryz.prog 43 [.int .i64 n, .int .i64 lo, .int .i64 hi] w (.bool (wi n lo hi)) := by
 refine ⟨en Tryz.func43 Tryz.ntmps43 (St.init w) (h := fun F => ?_)⟩
 refine sr ?_
 refine ww ?_
 refine nr ?_
 iterate 4 refine ww ?_
 apply brAnd 4 10 14 (by exact rfl)
 ·
  intro hb0
  iterate 3 refine uw ?_
  refine ww ?_
  exact mg (by repeat (first | exact trivial | refine ⟨rfl, ?_⟩ | refine ⟨by rw [hb0]; rfl, ?_⟩)) slz_
 ·
  intro hb0
  repeat (first | refine uz ?_ | refine kz ?_ | refine wz ?_)
  exact mg (by repeat (first | exact trivial | refine ⟨rfl, ?_⟩ | refine ⟨by rw [hb0]; rfl, ?_⟩)) slz_
 refine ww ?_
 refine nq ?_
 refine rtn ?_
 refine q_ret (hR := ?_)
 exact fun w hS => ⟨rfl, hS.sub slz_⟩
theorem C_ref1_isTie (f : Fmt) (n : Int) (hg : 1 ≤ f.games ∧ f.games ≤ 8) (w : World) : C0 Tryz.prog 44 [f.val, .int .i64 n] w (.bool (tieB f n)) := by
 refine ⟨en Tryz.func44 Tryz.ntmps44 (St.init w) (h := fun F => ?_)⟩
 refine sr ?_
 refine bxA (h := fun b0 => ?_)
 refine ww ?_
 refine nr ?_
 iterate 3 refine ww ?_
 apply brOr 3 7 10 (by exact rfl)
 ·
  intro hb0
  iterate 2 refine uw ?_
  refine ww ?_
  exact mg (by repeat (first | exact trivial | refine ⟨rfl, ?_⟩ | refine ⟨by rw [hb0]; rfl, ?_⟩)) slz_
 ·
  intro hb0
  repeat (first | refine uz ?_ | refine kz ?_ | refine wz ?_)
  exact mg (by repeat (first | exact trivial | refine ⟨rfl, ?_⟩ | refine ⟨by rw [hb0]; rfl, ?_⟩)) slz_
 refine ww ?_
 apply brOr 6 11 17 (by exact rfl)
 ·
  intro hb1
  iterate 5 refine uw ?_
  refine ww ?_
  exact mg (by repeat (first | exact trivial | refine ⟨rfl, ?_⟩ | refine ⟨by rw [hb1]; rfl, ?_⟩)) slz_
 ·
  intro hb1
  repeat (first | refine uz ?_ | refine kz ?_ | refine wz ?_)
  exact mg (by repeat (first | exact trivial | refine ⟨rfl, ?_⟩ | refine ⟨by rw [hb1]; rfl, ?_⟩)) slz_
 refine ww ?_
 apply brOr 5 18 23 (by exact rfl)
 ·
  intro hb2
  iterate 4 refine uw ?_
  refine ww ?_
  exact mg (by repeat (first | exact trivial | refine ⟨rfl, ?_⟩ | refine ⟨by rw [hb2]; rfl, ?_⟩)) slz_
 ·
  intro hb2
  repeat (first | refine uz ?_ | refine kz ?_ | refine wz ?_)
  exact mg (by repeat (first | exact trivial | refine ⟨rfl, ?_⟩ | refine ⟨by rw [hb2]; rfl, ?_⟩)) slz_
 refine ww ?_
 refine nq ?_
 refine rtn ?_
 refine q_ret (hR := ?_)
 exact fun w hS => ⟨rfl, hS.sub slz_⟩
theorem refChk (f : Fmt) : (!wi f.sets 1 3 || !wi f.games 1 8 || !tieB f f.tie || !tieB f f.ltie || !wi f.to 1 15 || !wi f.lto 1 15 || !wi f.first 0 20 || !wi f.thn 0 20) = !fmtOk f := by
 simp only [fmtOk, Bool.not_and]
theorem C_ref1_Check (f : Fmt) (w : World) : C0 Tryz.prog 15 [f.val] w (.int .i64 (chkF f)) := by
 refine ⟨en Tryz.func15 Tryz.ntmps15 (St.init w) (h := fun F => ?_)⟩
 refine sr ?_
 refine bxA (h := fun b0 => ?_)
 refine ww ?_
 refine nq ?_
 refine sq ?_
 refine sr ?_
 iterate 2 refine ww ?_
 refine cl0 (hc := fun w hS => C_ref1_within ..) (h := ?_)
 iterate 2 refine ww ?_
 apply brOr 5 7 12 (by exact rfl)
 ·
  intro hb0
  iterate 2 refine uw ?_
  refine uz ?_
  refine cl0 (hc := fun w hS => C_ref1_within ..) (h := ?_)
  refine uw ?_
  refine ww ?_
  exact mg (by repeat (first | exact trivial | refine ⟨rfl, ?_⟩ | refine ⟨by rw [hb0]; rfl, ?_⟩)) slz_
 ·
  intro hb0
  repeat (first | refine uz ?_ | refine kz ?_ | refine wz ?_)
  exact mg (by repeat (first | exact trivial | refine ⟨rfl, ?_⟩ | refine ⟨by rw [hb0]; rfl, ?_⟩)) slz_
 refine ww ?_
 apply brOr 6 13 19 (by exact rfl)
 ·
  intro hb1
  have hg : 1 ≤ f.games ∧ f.games ≤ 8 := by simp only [Bool.or_eq_false_iff, wi_not] at hb1; omega
  iterate 3 refine uw ?_
  refine uz ?_
  refine cl0 (hc := fun w hS => C_ref1_isTie f f.tie hg w) (h := ?_)
  refine uw ?_
  refine ww ?_
  exact mg (by repeat (first | exact trivial | refine ⟨rfl, ?_⟩ | refine ⟨by rw [hb1]; rfl, ?_⟩)) slz_
 ·
  intro hb1
  repeat (first | refine uz ?_ | refine kz ?_ | refine wz ?_)
  exact mg (by repeat (first | exact trivial | refine ⟨rfl, ?_⟩ | refine ⟨by rw [hb1]; rfl, ?_⟩)) slz_
 refine ww ?_
 apply brOr 6 20 26 (by exact rfl)
 ·
  intro hb2
  have hg : 1 ≤ f.games ∧ f.games ≤ 8 := by simp only [Bool.or_eq_false_iff, wi_not] at hb2; omega
  iterate 3 refine uw ?_
  refine uz ?_
  refine cl0 (hc := fun w hS => C_ref1_isTie f f.ltie hg w) (h := ?_)
  refine uw ?_
  refine ww ?_
  exact mg (by repeat (first | exact trivial | refine ⟨rfl, ?_⟩ | refine ⟨by rw [hb2]; rfl, ?_⟩)) slz_
 ·
  intro hb2
  repeat (first | refine uz ?_ | refine kz ?_ | refine wz ?_)
  exact mg (by repeat (first | exact trivial | refine ⟨rfl, ?_⟩ | refine ⟨by rw [hb2]; rfl, ?_⟩)) slz_
 refine ww ?_
 apply brOr 5 27 32 (by exact rfl)
 ·
  intro hb3
  iterate 2 refine uw ?_
  refine uz ?_
  refine cl0 (hc := fun w hS => C_ref1_within ..) (h := ?_)
  refine uw ?_
  refine ww ?_
  exact mg (by repeat (first | exact trivial | refine ⟨rfl, ?_⟩ | refine ⟨by rw [hb3]; rfl, ?_⟩)) slz_
 ·
  intro hb3
  repeat (first | refine uz ?_ | refine kz ?_ | refine wz ?_)
  exact mg (by repeat (first | exact trivial | refine ⟨rfl, ?_⟩ | refine ⟨by rw [hb3]; rfl, ?_⟩)) slz_
 refine ww ?_
 apply brOr 5 33 38 (by exact rfl)
 ·
  intro hb4
  iterate 2 refine uw ?_
  refine uz ?_
  refine cl0 (hc := fun w hS => C_ref1_within ..) (h := ?_)
  refine uw ?_
  refine ww ?_
  exact mg (by repeat (first | exact trivial | refine ⟨rfl, ?_⟩ | refine ⟨by rw [hb4]; rfl, ?_⟩)) slz_
 ·
  intro hb4
  repeat (first | refine uz ?_ | refine kz ?_ | refine wz ?_)
  exact mg (by repeat (first | exact trivial | refine ⟨rfl, ?_⟩ | refine ⟨by rw [hb4]; rfl, ?_⟩)) slz_
 refine ww ?_
 apply brOr 5 39 44 (by exact rfl)
 ·
  intro hb5
  iterate 2 refine uw ?_
  refine uz ?_
  refine cl0 (hc := fun w hS => C_ref1_within ..) (h := ?_)
  refine uw ?_
  refine ww ?_
  exact mg (by repeat (first | exact trivial | refine ⟨rfl, ?_⟩ | refine ⟨by rw [hb5]; rfl, ?_⟩)) slz_
 ·
  intro hb5
  repeat (first | refine uz ?_ | refine kz ?_ | refine wz ?_)
  exact mg (by repeat (first | exact trivial | refine ⟨rfl, ?_⟩ | refine ⟨by rw [hb5]; rfl, ?_⟩)) slz_
 refine ww ?_
 apply brOr 5 45 50 (by exact rfl)
 ·
  intro hb6
  iterate 2 refine uw ?_
  refine uz ?_
  refine cl0 (hc := fun w hS => C_ref1_within ..) (h := ?_)
  refine uw ?_
  refine ww ?_
  exact mg (by repeat (first | exact trivial | refine ⟨rfl, ?_⟩ | refine ⟨by rw [hb6]; rfl, ?_⟩)) slz_
 ·
  intro hb6
  repeat (first | refine uz ?_ | refine kz ?_ | refine wz ?_)
  exact mg (by repeat (first | exact trivial | refine ⟨rfl, ?_⟩ | refine ⟨by rw [hb6]; rfl, ?_⟩)) slz_
 refine nq ?_
 refine czz (fun h7 => ?_) fun h7 => ?_
 ·
  have hb : fmtOk f = false := by rw [refChk] at h7; simpa using h7
  have hc : chkF f = 10 := by rw [chkF, hb]; rfl
  refine sr ?_
  refine ww ?_
  refine nq ?_
  refine rtn ?_
  refine q_then_ret ?_
  refine q_ret (hR := ?_)
  rw [hc]
  exact fun w hS => ⟨rfl, hS.sub slz_⟩
 ·
  have hb : fmtOk f = true := by rw [refChk] at h7; simpa using h7
  have hc : chkF f = 0 := by rw [chkF, hb]; rfl
  refine skp ?_
  refine q_seq ?_
  refine sr ?_
  refine ww ?_
  refine nq ?_
  refine rtn ?_
  refine q_ret (hR := ?_)
  rw [hc]
  exact fun w hS => ⟨rfl, hS.sub slz_⟩
end Go.Proofs.YthkliiifllhacaaGreat

namespace Go.Proofs.YthkliiifllhacaaGreat
open Go Go.RowKit

def leadsR (p : Pr) (l : Int) : Int := bif decide (l ≤ p.1) && decide (p.2 + 2 ≤ p.1) then 0 else bif decide (l ≤ p.2) && decide (p.1 + 2 ≤ p.2) then 1 else -1
theorem leadsR_eq (p : Pr) (l : Int) : leadsR p l = leadsV p l 2 := by
 unfold leadsR leadsV
 rw [show decide (p.2 + 2 ≤ p.1) = decide ((2 : Int) ≤ p.1 - p.2) from decide_eq_decide.2 (by omega), show decide (p.1 + 2 ≤ p.2) = decide ((2 : Int) ≤ p.2 - p.1) from decide_eq_decide.2 (by omega)]
theorem C_ref1_leads' (p : Pr) (l : Int) (hp : Sm p) (w : World) : C0 Tryz.prog 140 [pv p, .int .i64 l] w (.int .i64 (leadsR p l)) := by
 obtain ⟨⟨h1, h2⟩, h3, h4⟩ := hp
 refine ⟨en Tryz.func140 Tryz.ntmps140 (St.init w) (h := fun F => ?_)⟩
 refine sr ?_
 refine bxA (h := fun b0 => ?_)
 refine ww ?_
 refine nq ?_
 refine sq ?_
 refine sr ?_
 iterate 5 refine ww ?_
 apply brAnd 7 9 16 (by exact rfl)
 ·
  intro hb0
  iterate 6 refine uw ?_
  refine ww ?_
  exact mg (by repeat (first | exact trivial | refine ⟨rfl, ?_⟩ | refine ⟨by rw [hb0]; rfl, ?_⟩)) slz_
 ·
  intro hb0
  repeat (first | refine uz ?_ | refine kz ?_ | refine wz ?_)
  exact mg (by repeat (first | exact trivial | refine ⟨rfl, ?_⟩ | refine ⟨by rw [hb0]; rfl, ?_⟩)) slz_
 refine nq ?_
 refine czz (fun h1 => ?_) fun h1 => ?_
 ·
  refine sr ?_
  refine ww ?_
  refine nq ?_
  refine rtn ?_
  refine q_then_ret ?_
  refine q_ret (hR := ?_)
  exact fun w hS => ⟨cdT' (fun x : Int => Ending.returned (Value.int .i64 x)) h1, hS.sub slz_⟩
 ·
  refine skp ?_
  refine q_seq ?_
  refine sq ?_
  refine sr ?_
  iterate 5 refine ww ?_
  apply brAnd 7 21 28 (by exact rfl)
  ·
   intro hb2
   iterate 6 refine uw ?_
   refine ww ?_
   exact mg (by repeat (first | exact trivial | refine ⟨rfl, ?_⟩ | refine ⟨by rw [hb2]; rfl, ?_⟩)) slz_
  ·
   intro hb2
   repeat (first | refine uz ?_ | refine kz ?_ | refine wz ?_)
   exact mg (by repeat (first | exact trivial | refine ⟨rfl, ?_⟩ | refine ⟨by rw [hb2]; rfl, ?_⟩)) slz_
  refine nq ?_
  refine czz (fun h3 => ?_) fun h3 => ?_
  ·
   refine sr ?_
   refine ww ?_
   refine nq ?_
   refine rtn ?_
   refine q_then_ret ?_
   refine q_ret (hR := ?_)
   exact fun w hS => ⟨(cdT' (fun x : Int => Ending.returned (Value.int .i64 x)) h3).trans (cdF' (fun x : Int => Ending.returned (Value.int .i64 x)) h1), hS.sub slz_⟩
  ·
   refine skp ?_
   refine q_seq ?_
   refine sr ?_
   refine ww ?_
   refine nq ?_
   refine rtn ?_
   refine q_ret (hR := ?_)
   exact fun w hS => ⟨(cdF' (fun x : Int => Ending.returned (Value.int .i64 x)) h3).trans (cdF' (fun x : Int => Ending.returned (Value.int .i64 x)) h1), hS.sub slz_⟩
theorem C_ref1_leads (p : Pr) (l : Int) (hp : Sm p) (w : World) : C0 Tryz.prog 140 [pv p, .int .i64 l] w (.int .i64 (leadsV p l 2)) := by
 rw [← leadsR_eq]; exact C_ref1_leads' p l hp w
theorem C_ref1_plus (p : Pr) (side : Int) (hp : Sm p) (w : World) : C0 Tryz.prog 138 [pv p, .int .i64 side] w (pv (addV p side)) := by
 obtain ⟨⟨h1, h2⟩, h3, h4⟩ := hp
 refine ⟨en Tryz.func138 Tryz.ntmps138 (St.init w) (h := fun F => ?_)⟩
 refine sr ?_
 refine bxA (h := fun b0 => ?_)
 refine al (h := fun b1 => ?_)
 refine nq ?_
 refine sq ?_
 refine sr ?_
 iterate 2 refine ww ?_
 refine nq ?_
 refine czz (fun h0 => ?_) fun h0 => ?_
 ·
  refine rg ?_
  iterate 4 refine ww ?_
  first | refine st (h := ?_) | refine stE (h := ?_)
  refine nr ?_
  refine ww ?_
  first | refine stA (h := ?_) | refine stEA (h := ?_)
  refine nq ?_
  refine rtn ?_
  refine q_ret (hR := ?_)
  exact fun w hS => ⟨cdT' (x := (p.1 + 1, p.2)) (fun p : Pr => Ending.returned (pv p)) h0, hS.sub slz_⟩
 ·
  refine rg ?_
  iterate 4 refine ww ?_
  first | refine st (h := ?_) | refine stE (h := ?_)
  refine nr ?_
  refine ww ?_
  first | refine stA (h := ?_) | refine stEA (h := ?_)
  refine nq ?_
  refine rtn ?_
  refine q_ret (hR := ?_)
  exact fun w hS => ⟨cdF' (y := (p.1, p.2 + 1)) (fun p : Pr => Ending.returned (pv p)) h0, hS.sub slz_⟩
def gameR (f : Fmt) (p : Pr) : Int := bif f.noAd then bif decide (4 ≤ p.1) then 0 else bif decide (4 ≤ p.2) then 1 else -1 else leadsV p 4 2
theorem C_ref1_game (f : Fmt) (p : Pr) (hp : Sm p) (w : World) : C0 Tryz.prog 139 [f.val, pv p] w (.int .i64 (gameR f p)) := by
 refine ⟨en Tryz.func139 Tryz.ntmps139 (St.init w) (h := fun F => ?_)⟩
 refine sr ?_
 refine bxA (h := fun b0 => ?_)
 refine bxA (h := fun b1 => ?_)
 refine ww ?_
 refine nq ?_
 refine sq ?_
 refine sr ?_
 iterate 2 refine ww ?_
 refine nq ?_
 refine czz (fun h0 => ?_) fun h0 => ?_
 ·
  refine sq ?_
  refine sr ?_
  iterate 3 refine ww ?_
  refine nq ?_
  refine czz (fun h1 => ?_) fun h1 => ?_
  ·
   refine sr ?_
   refine ww ?_
   refine nq ?_
   refine rtn ?_
   iterate 2 refine q_then_ret ?_
   refine q_ret (hR := ?_)
   exact fun w hS => ⟨(cdT' (fun x : Int => Ending.returned (Value.int .i64 x)) h1).trans (cdT' (fun x : Int => Ending.returned (Value.int .i64 x)) h0), hS.sub slz_⟩
  ·
   refine skp ?_
   refine q_seq ?_
   refine sq ?_
   refine sr ?_
   iterate 3 refine ww ?_
   refine nq ?_
   refine czz (fun h2 => ?_) fun h2 => ?_
   ·
    refine sr ?_
    refine ww ?_
    refine nq ?_
    refine rtn ?_
    iterate 2 refine q_then_ret ?_
    refine q_ret (hR := ?_)
    exact fun w hS => ⟨((cdT' (fun x : Int => Ending.returned (Value.int .i64 x)) h2).trans (cdF' (fun x : Int => Ending.returned (Value.int .i64 x)) h1)).trans (cdT' (fun x : Int => Ending.returned (Value.int .i64 x)) h0), hS.sub slz_⟩
   ·
    refine skp ?_
    refine q_seq ?_
    refine sr ?_
    refine ww ?_
    refine nq ?_
    refine rtn ?_
    refine q_then_ret ?_
    refine q_ret (hR := ?_)
    exact fun w hS => ⟨((cdF' (fun x : Int => Ending.returned (Value.int .i64 x)) h2).trans (cdF' (fun x : Int => Ending.returned (Value.int .i64 x)) h1)).trans (cdT' (fun x : Int => Ending.returned (Value.int .i64 x)) h0), hS.sub slz_⟩
 ·
  refine skp ?_
  refine q_seq ?_
  refine sr ?_
  refine ww ?_
  refine cl0 (hc := fun w hS => C_ref1_leads _ _ (by assumption) w) (h := ?_)
  refine ww ?_
  refine nq ?_
  refine rtn ?_
  refine q_ret (hR := ?_)
  exact fun w hS => ⟨cdF' (fun x : Int => Ending.returned (Value.int .i64 x)) h0, hS.sub slz_⟩

def wside (p : Pr) : Int := bif decide (p.2 < p.1) then 0 else 1
def wonTo (l : List Pr) : Nat → Pr
 | 0 => (0, 0)
 | k + 1 => match l[k]? with
  | some p => addV (wonTo l k) (wside p)
  | none => wonTo l k
def wonV (l : List Pr) : Pr := wonTo l l.length
theorem wonTo_succ {l : List Pr} {k : Nat} {p : Pr} (h : l[k]? = some p) : wonTo l (k + 1) = addV (wonTo l k) (wside p) := by rw [wonTo, h]
theorem wonTo_bd (l : List Pr) : ∀ k, (0 ≤ (wonTo l k).1 ∧ (wonTo l k).1 ≤ (k : Int)) ∧ 0 ≤ (wonTo l k).2 ∧ (wonTo l k).2 ≤ (k : Int)
 | 0 => by simp [wonTo]
 | k + 1 => by
  have ih := wonTo_bd l k
  rw [wonTo]
  cases l[k]? with
  | none => dsimp only; omega
  | some p => have := addV_bd (side := wside p) ih; simpa using this
theorem wonTo_app (l : List Pr) (p : Pr) : ∀ k, k ≤ l.length → wonTo (l ++ [p]) k = wonTo l k
 | 0, _ => rfl
 | k + 1, hk => by rw [wonTo, wonTo, wonTo_app l p k (by omega), List.getElem?_append_left (by omega)]
theorem wonV_app (l : List Pr) (p : Pr) : wonV (l ++ [p]) = addV (wonV l) (wside p) := by
 unfold wonV
 have hl : (l ++ [p]).length = l.length + 1 := by simp
 rw [hl, wonTo_succ (p := p) (by simp), wonTo_app l p _ (Nat.le_refl _)]
structure WZ where
 (k : Nat) (p : Pr)
theorem C_ref1_Won (l : List Pr) (A : Option Addr) (n c : Nat) (w : World) (h : Rd w A 2 n (encP l)) (hn : n ≤ 1000000) : C0 Tryz.prog 142 [.slice A n c] w (pv (wonV l)) := by
 have hlen : l.length = n := by have := h.len; simpa [encP] using this
 refine ⟨en Tryz.func142 Tryz.ntmps142 ((St.init w).share (e := .ro A 2 n (encP l)) h rfl rfl rfl) (h := fun F => ?_)⟩
 refine sr ?_
 refine al (h := fun b0 => ?_)
 refine nr ?_
 refine al (h := fun b1 => ?_)
 refine nq ?_
 refine sq ?_
 refine sr ?_
 refine ww ?_
 refine nq ?_
 refine bk ?_
 refine lp (X := WZ) (I := fun z => z.k ≤ n ∧ z.p = wonTo l z.k) (le := fun z => [(0, .slice A n c), (2, .pointer (some ⟨b0, 0, none⟩)), (3, .pointer (some ⟨b1, 0, none⟩)), (4, .int .i64 z.k)]) (Le := fun z => [.blk b0 73 [.int .i64 0, .int .i64 0], .blk b1 73 [.int .i64 z.p.1, .int .i64 z.p.2], .ro A 2 n (encP l)]) (μ := fun z => n - z.k) ⟨0, (0, 0)⟩ ⟨Nat.zero_le _, rfl⟩ sbz_ slz_ (fun z hz => ?_)
 obtain ⟨hzk, hzp⟩ := hz
 refine sq ?_
 refine sr ?_
 iterate 4 refine ww ?_
 refine nq ?_
 refine czz (fun h0 => ?_) fun h0 => ?_
 ·
  have hkn : z.k < n := by simp only [decide_eq_true_eq] at h0; omega
  obtain ⟨q, hq⟩ : ∃ q, l[z.k]? = some q := ⟨_, List.getElem?_eq_getElem (by omega)⟩
  have hqe := encP_at hq
  have hst := wonTo_succ hq
  have hbd := wonTo_bd l z.k
  rw [← hzp] at hbd hst
  refine skp ?_
  refine q_seq ?_
  refine sq ?_
  refine bk ?_
  refine sq ?_
  refine rgD0 (by kernel_rfl) (h := ?_)
  refine tw 0 ?_
  refine tw 1 ?_
  refine tk 2 (hy := ix) (h := ?_)
  refine tw 3 ?_
  refine tk 4 (hy := ldE (hk := hqe)) (h := ?_)
  refine tw 5 ?_
  refine tw 6 ?_
  refine tk 7 (hy := ix) (h := ?_)
  refine tw 8 ?_
  refine tk 9 (hy := ldE (hk := hqe)) (h := ?_)
  refine tw 10 ?_
  refine dn (h := ?_)
  refine q_seq ?_
  refine czz (fun h1 => ?_) fun h1 => ?_
  ·
   have hws : addV z.p (wside q) = (z.p.1 + 1, z.p.2) := by unfold wside; rw [h1]; rfl
   refine rg ?_
   iterate 4 refine ww ?_
   first | refine st (h := ?_) | refine stE (h := ?_)
   refine nl ?_
   refine q_blk_norm ?_
   refine q_seq ?_
   refine rg ?_
   iterate 3 refine ww ?_
   refine nl ?_
   refine rn (x := z) ⟨z.k + 1, addV z.p (wside q)⟩ ⟨by dsimp only; omega, by rw [hst]⟩ (by dsimp only; omega) sbz_ (by (try dsimp only); rw [hws]; repeat (first | exact SubL.nil | (apply SubL.cons; (repeat (first | exact At.here | apply At.there)))))
  ·
   have hws : addV z.p (wside q) = (z.p.1, z.p.2 + 1) := by unfold wside; rw [h1]; rfl
   refine rg ?_
   iterate 4 refine ww ?_
   first | refine st (h := ?_) | refine stE (h := ?_)
   refine nl ?_
   refine q_blk_norm ?_
   refine q_seq ?_
   refine rg ?_
   iterate 3 refine ww ?_
   refine nl ?_
   refine rn (x := z) ⟨z.k + 1, addV z.p (wside q)⟩ ⟨by dsimp only; omega, by rw [hst]⟩ (by dsimp only; omega) sbz_ (by (try dsimp only); rw [hws]; repeat (first | exact SubL.nil | (apply SubL.cons; (repeat (first | exact At.here | apply At.there)))))
 ·
  have hkn : z.k = n := by simp only [decide_eq_false_iff_not] at h0; omega
  refine et ?_
  iterate 2 refine q_then_exit ?_
  refine q_blk_hit ?_
  refine q_seq ?_
  refine sr ?_
  refine ww ?_
  first | refine stA (h := ?_) | refine stEA (h := ?_)
  refine nq ?_
  refine rtn ?_
  refine q_ret (hR := ?_)
  exact fun w hS => ⟨by rw [wonV, hlen, ← hkn, ← hzp]; rfl, hS.sub slz_⟩

theorem C_ref1_IsLast (f : Fmt) (won : Pr) (hf : f.Ok) (w : World) : C0 Tryz.prog 191 [f.val, pv won] w (.bool (decide (won.1 = f.sets - 1) && decide (won.2 = f.sets - 1))) := by
 have h1 := hf.s0
 have h2 := hf.s1
 refine ⟨en Tryz.func191 Tryz.ntmps191 (St.init w) (h := fun F => ?_)⟩
 refine sr ?_
 refine bxA (h := fun b0 => ?_)
 refine bxA (h := fun b1 => ?_)
 refine ww ?_
 refine nr ?_
 iterate 7 refine ww ?_
 apply brAnd 7 11 18 (by exact rfl)
 ·
  intro hb0
  iterate 6 refine uw ?_
  refine ww ?_
  exact mg (by repeat (first | exact trivial | refine ⟨rfl, ?_⟩ | refine ⟨by rw [hb0]; rfl, ?_⟩)) slz_
 ·
  intro hb0
  repeat (first | refine uz ?_ | refine kz ?_ | refine wz ?_)
  exact mg (by repeat (first | exact trivial | refine ⟨rfl, ?_⟩ | refine ⟨by rw [hb0]; rfl, ?_⟩)) slz_
 refine ww ?_
 refine nq ?_
 refine rtn ?_
 refine q_ret (hR := ?_)
 exact fun w hS => ⟨rfl, hS.sub slz_⟩
def ruleV (f : Fmt) (last : Bool) : Pr := bif last then (f.ltie, f.lto) else (f.tie, f.to)
theorem C_ref1_Rule (f : Fmt) (last : Bool) (w : World) : C0 Tryz.prog 190 [f.val, .bool last] w (.tuple #[.int .i64 (ruleV f last).1, .int .i64 (ruleV f last).2]) := by
 refine ⟨en Tryz.func190 Tryz.ntmps190 (St.init w) (h := fun F => ?_)⟩
 refine sr ?_
 refine bxA (h := fun b0 => ?_)
 iterate 2 refine ww ?_
 refine nq ?_
 refine sq ?_
 refine sr ?_
 refine ww ?_
 refine nq ?_
 refine czz (fun h0 => ?_) fun h0 => ?_
 ·
  subst h0
  refine sq ?_
  refine rgD0 (by kernel_rfl) (h := ?_)
  refine tw 0 ?_
  refine tw 1 ?_
  refine tw 2 ?_
  refine tw 3 ?_
  refine tw 4 ?_
  refine tw 5 ?_
  refine dn (h := ?_)
  refine q_seq ?_
  refine rtn ?_
  refine q_then_ret ?_
  refine q_ret (hR := ?_)
  exact fun w hS => ⟨rfl, hS.sub slz_⟩
 ·
  subst h0
  refine skp ?_
  refine q_seq ?_
  refine sq ?_
  refine rgD0 (by kernel_rfl) (h := ?_)
  refine tw 0 ?_
  refine tw 1 ?_
  refine tw 2 ?_
  refine tw 3 ?_
  refine tw 4 ?_
  refine tw 5 ?_
  refine dn (h := ?_)
  refine q_seq ?_
  refine rtn ?_
  refine q_ret (hR := ?_)
  exact fun w hS => ⟨rfl, hS.sub slz_⟩
theorem rule_set (f : Fmt) (won : Pr) : ruleV f (decide (won.1 = f.sets - 1) && decide (won.2 = f.sets - 1)) = setV f won := rfl
def tiedV (f : Fmt) (l : List Pr) (g : Pr) : Bool := decide (0 ≤ (setV f (wonV l)).1) && decide (g.1 = (setV f (wonV l)).1) && decide (g.2 = (setV f (wonV l)).1)
theorem C_ref1_tied (f : Fmt) (b : Brd) (A : Option Addr) (n c : Nat) (hf : f.Ok) (w : World) (h : Rd w A 2 n (encP b.st)) (hn : n ≤ 1000000) : C0 Tryz.prog 137 [f.val, b.val A n c] w (.tuple #[.bool (tiedV f b.st b.g), .int .i64 (setV f (wonV b.st)).2]) := by
 refine ⟨en Tryz.func137 Tryz.ntmps137 ((St.init w).share (e := .ro A 2 n (encP b.st)) h rfl rfl rfl) (h := fun F => ?_)⟩
 refine sr ?_
 refine bxA (h := fun b0 => ?_)
 refine bxA (h := fun b1 => ?_)
 iterate 2 refine ww ?_
 refine nq ?_
 refine sq ?_
 refine rgD0 (by kernel_rfl) (h := ?_)
 refine tw 0 ?_
 refine tw 1 ?_
 refine tw 2 ?_
 refine tw 3 ?_
 refine one 4 (h := ?_)
 refine cl0 (hc := fun w hS => C_ref1_Won b.st A n c w (hS.get rdz_) hn) (h := ?_)
 refine nx (h := ?_)
 refine one 5 (h := ?_)
 refine cl0 (hc := fun w hS => C_ref1_IsLast _ _ (by assumption) w) (h := ?_)
 refine nx (h := ?_)
 refine one 6 (h := ?_)
 refine cl0 (hc := fun w hS => C_ref1_Rule f _ w) (h := ?_)
 rw [rule_set]
 refine nx (h := ?_)
 refine tw 7 ?_
 refine tw 8 ?_
 refine tw 9 ?_
 refine tw 10 ?_
 refine tw 11 ?_
 refine dn (h := ?_)
 refine q_seq ?_
 refine sr ?_
 iterate 3 refine ww ?_
 apply brAnd 6 20 26 (by exact rfl)
 ·
  intro hb0
  iterate 5 refine uw ?_
  refine ww ?_
  exact mg (by repeat (first | exact trivial | refine ⟨rfl, ?_⟩ | refine ⟨by rw [hb0]; rfl, ?_⟩)) slz_
 ·
  intro hb0
  repeat (first | refine uz ?_ | refine kz ?_ | refine wz ?_)
  exact mg (by repeat (first | exact trivial | refine ⟨rfl, ?_⟩ | refine ⟨by rw [hb0]; rfl, ?_⟩)) slz_
 refine ww ?_
 apply brAnd 6 27 33 (by exact rfl)
 ·
  intro hb1
  iterate 5 refine uw ?_
  refine ww ?_
  exact mg (by repeat (first | exact trivial | refine ⟨rfl, ?_⟩ | refine ⟨by rw [hb1]; rfl, ?_⟩)) slz_
 ·
  intro hb1
  repeat (first | refine uz ?_ | refine kz ?_ | refine wz ?_)
  exact mg (by repeat (first | exact trivial | refine ⟨rfl, ?_⟩ | refine ⟨by rw [hb1]; rfl, ?_⟩)) slz_
 iterate 3 refine ww ?_
 refine nq ?_
 refine rtn ?_
 refine q_ret (hR := ?_)
 exact fun w hS => ⟨rfl, hS.sub slz_⟩

theorem C_ref1_due (f : Fmt) (n : Int) (hf : f.Ok) (hn : 0 ≤ n ∧ n ≤ 1000000) (w : World) : C0 Tryz.prog 189 [f.val, .int .i64 n] w (.bool (dueV f n)) := by
 have h1 := hf.f0
 have h2 := hf.f1
 have h3 := hf.n0
 have e1 : dueV f n = (decide (0 < f.first) && (decide (n = f.first) || decide (f.first < n) && decide (0 < f.thn) && decide ((n - f.first) % f.thn = 0))) := by
  unfold dueV
  rw [show decide (n - f.first = 0) = decide (n = f.first) from decide_eq_decide.2 (by omega), show decide (0 < n - f.first) = decide (f.first < n) from decide_eq_decide.2 (by omega)]
 rw [e1]
 refine ⟨en Tryz.func189 Tryz.ntmps189 (St.init w) (h := fun F => ?_)⟩
 refine sr ?_
 refine bxA (h := fun b0 => ?_)
 refine ww ?_
 refine nr ?_
 iterate 4 refine ww ?_
 apply brAnd 26 8 34 (by exact rfl)
 ·
  intro hb0
  iterate 5 refine uw ?_
  apply brOr 20 13 33 (by exact rfl)
  ·
   intro hb1
   iterate 5 refine uw ?_
   apply brAnd 4 18 22 (by exact rfl)
   ·
    intro hb2
    iterate 4 refine uw ?_
    exact mg (by repeat (first | exact trivial | refine ⟨rfl, ?_⟩ | refine ⟨by rw [hb2]; rfl, ?_⟩ | refine ⟨by rw [hb0]; rfl, ?_⟩ | refine ⟨by rw [hb1]; rfl, ?_⟩)) slz_
   ·
    intro hb2
    repeat (first | refine uz ?_ | refine kz ?_ | refine wz ?_)
    exact mg (by repeat (first | exact trivial | refine ⟨rfl, ?_⟩ | refine ⟨by rw [hb2]; rfl, ?_⟩ | refine ⟨by rw [hb0]; rfl, ?_⟩ | refine ⟨by rw [hb1]; rfl, ?_⟩)) slz_
   refine uw ?_
   apply brAnd 9 23 32 (by exact rfl)
   ·
    intro hb3
    obtain ⟨hng, hthn⟩ : f.first < n ∧ 0 < f.thn := by simp only [Bool.and_eq_true, decide_eq_true_eq] at hb3; omega
    iterate 9 refine uw ?_
    exact mg (by repeat (first | exact trivial | refine ⟨rfl, ?_⟩ | refine ⟨by rw [hb3]; rfl, ?_⟩ | refine ⟨by rw [hb0]; rfl, ?_⟩ | refine ⟨by rw [hb1]; rfl, ?_⟩)) slz_
   ·
    intro hb3
    repeat (first | refine uz ?_ | refine kz ?_ | refine wz ?_)
    exact mg (by repeat (first | exact trivial | refine ⟨rfl, ?_⟩ | refine ⟨by rw [hb3]; rfl, ?_⟩ | refine ⟨by rw [hb0]; rfl, ?_⟩ | refine ⟨by rw [hb1]; rfl, ?_⟩)) slz_
   refine uw ?_
   exact mg (by repeat (first | exact trivial | refine ⟨rfl, ?_⟩ | refine ⟨by rw [hb1]; rfl, ?_⟩ | refine ⟨by rw [hb0]; rfl, ?_⟩)) slz_
  ·
   intro hb1
   repeat (first | refine uz ?_ | refine kz ?_ | refine wz ?_)
   exact mg (by repeat (first | exact trivial | refine ⟨rfl, ?_⟩ | refine ⟨by rw [hb1]; rfl, ?_⟩ | refine ⟨by rw [hb0]; rfl, ?_⟩)) slz_
  refine ww ?_
  exact mg (by repeat (first | exact trivial | refine ⟨rfl, ?_⟩ | refine ⟨by rw [hb0]; rfl, ?_⟩)) slz_
 ·
  intro hb0
  repeat (first | refine uz ?_ | refine kz ?_ | refine wz ?_)
  exact mg (by repeat (first | exact trivial | refine ⟨rfl, ?_⟩ | refine ⟨by rw [hb0]; rfl, ?_⟩)) slz_
 refine ww ?_
 refine nq ?_
 refine rtn ?_
 refine q_ret (hR := ?_)
 exact fun w hS => ⟨rfl, hS.sub slz_⟩

def turnR (tie : Bool) (pt : Int) : Int := bif tie then (pt + 1) / 2 else 0
def befTo (first side : Int) : Nat → Int
 | 0 => 0
 | k + 1 => bif decide ((first + (k : Int)) % 2 = side) then befTo first side k + 1 else befTo first side k
theorem befTo_bd (first side : Int) : ∀ k, 0 ≤ befTo first side k ∧ befTo first side k ≤ (k : Int)
 | 0 => by simp [befTo]
 | k + 1 => by
  have := befTo_bd first side k
  rw [befTo]
  cases decide ((first + (k : Int)) % 2 = side) <;> simp only [cond_true, cond_false] <;> omega
def servR (f : Fmt) (first : Int) (game : Nat) (tie : Bool) (pt : Int) : Int :=
 bif !f.dbl then (first + game + turnR tie pt) % 2 else (first + game + turnR tie pt) % 2 + 2 * ((befTo first ((first + game + turnR tie pt) % 2) game + turnR tie pt / 2) % 2)
structure SVZ where
 (k : Nat) (c : Int)
theorem C_ref1_Server' (f : Fmt) (first : Int) (game : Nat) (tie : Bool) (pt t : Int) (hfs : 0 ≤ first ∧ first ≤ 1) (hg : game ≤ 1000) (hp : 0 ≤ pt ∧ pt ≤ 10000) (ht : turnR tie pt = t) (w : World) : C0 Tryz.prog 141 [f.val, .int .i64 first, .int .i64 game, .bool tie, .int .i64 pt] w (.int .i64 (servR f first game tie pt)) := by
 have htb : 0 ≤ t ∧ t ≤ 10000 := by rw [← ht]; unfold turnR; cases tie <;> simp <;> omega
 have hS : servR f first game tie pt = bif !f.dbl then (first + game + t) % 2 else (first + game + t) % 2 + 2 * ((befTo first ((first + game + t) % 2) game + t / 2) % 2) := by unfold servR; rw [ht]
 rw [hS]
 refine ⟨en Tryz.func141 Tryz.ntmps141 (St.init w) (h := fun F => ?_)⟩
 refine sr ?_
 refine bxA (h := fun b0 => ?_)
 refine ww ?_
 refine nr ?_
 refine ww ?_
 refine nq ?_
 refine ct (X := Unit) (fun _ => True) (fun _ => [(1, .int .i64 first), (2, .int .i64 game), (5, .pointer (some ⟨b0, 0, none⟩)), (11, .int .i64 t)]) (fun _ => [.blk b0 49 f.cells]) (h1 := ?_) (h2 := ?_)
 ·
  refine sr ?_
  refine ww ?_
  refine nq ?_
  refine czz (fun h0 => ?_) fun h0 => ?_
  ·
   refine rg ?_
   iterate 4 refine ww ?_
   refine nl ?_
   first
    | (subst h0; exact ctn () trivial (by repeat (first | exact trivial | refine ⟨rfl, ?_⟩ | refine ⟨by rw [← ht]; rfl, ?_⟩)) slz_)
  ·
   refine skp ?_
   first
    | (subst h0; exact ctn () trivial (by repeat (first | exact trivial | refine ⟨rfl, ?_⟩ | refine ⟨by rw [← ht]; rfl, ?_⟩)) slz_)
 rintro ⟨⟩ -
 refine sr ?_
 iterate 7 refine ww ?_
 refine nq ?_
 refine sq ?_
 refine sr ?_
 iterate 3 refine ww ?_
 refine nq ?_
 refine czz (fun h1 => ?_) fun h1 => ?_
 ·
  rw [h1]
  refine sr ?_
  iterate 2 refine ww ?_
  refine nq ?_
  refine rtn ?_
  refine q_then_ret ?_
  refine q_ret (hR := ?_)
  exact fun w hS => ⟨rfl, hS.sub slz_⟩
 ·
  rw [h1]
  refine skp ?_
  refine q_seq ?_
  refine sr ?_
  refine ww ?_
  refine nq ?_
  refine sq ?_
  refine sr ?_
  refine ww ?_
  refine nq ?_
  refine bk ?_
  refine lp (X := SVZ) (I := fun z => z.k ≤ game ∧ z.c = befTo first ((first + game + t) % 2) z.k) (le := fun z => [(1, .int .i64 first), (2, .int .i64 game), (11, .int .i64 t), (12, .int .i64 ((first + game + t) % 2)), (13, .int .i64 z.c), (14, .int .i64 z.k)]) (Le := fun z => []) (μ := fun z => game - z.k) ⟨0, 0⟩ ⟨Nat.zero_le _, rfl⟩ sbz_ slz_ (fun z hz => ?_)
  obtain ⟨hzk, hzc⟩ := hz
  refine sq ?_
  refine sr ?_
  iterate 3 refine ww ?_
  refine nq ?_
  refine czz (fun h2 => ?_) fun h2 => ?_
  ·
   have hkn : z.k < game := by simp only [decide_eq_true_eq] at h2; omega
   have hbd := befTo_bd first ((first + game + t) % 2) z.k
   rw [← hzc] at hbd
   refine skp ?_
   refine q_seq ?_
   refine sq ?_
   refine bk ?_
   refine sr ?_
   iterate 6 refine ww ?_
   refine nq ?_
   refine czz (fun h3 => ?_) fun h3 => ?_
   ·
    have hst : befTo first ((first + game + t) % 2) (z.k + 1) = z.c + 1 := by
     have h' : decide ((first + (z.k : Int)) % 2 = (first + game + t) % 2) = true := h3
     rw [befTo, h', hzc]; rfl
    refine rg ?_
    iterate 3 refine ww ?_
    refine nl ?_
    refine q_blk_norm ?_
    refine q_seq ?_
    refine rg ?_
    iterate 3 refine ww ?_
    refine nl ?_
    refine rn (x := z) ⟨z.k + 1, befTo first ((first + game + t) % 2) (z.k + 1)⟩ ⟨by dsimp only; omega, rfl⟩ (by dsimp only; omega) (by (try dsimp only); repeat (first | exact trivial | refine ⟨rfl, ?_⟩ | refine ⟨by rw [hst]; rfl, ?_⟩)) slz_
   ·
    have hst : befTo first ((first + game + t) % 2) (z.k + 1) = z.c := by
     have h' : decide ((first + (z.k : Int)) % 2 = (first + game + t) % 2) = false := h3
     rw [befTo, h', hzc]; rfl
    refine skp ?_
    refine q_blk_norm ?_
    refine q_seq ?_
    refine rg ?_
    iterate 3 refine ww ?_
    refine nl ?_
    refine rn (x := z) ⟨z.k + 1, befTo first ((first + game + t) % 2) (z.k + 1)⟩ ⟨by dsimp only; omega, rfl⟩ (by dsimp only; omega) (by (try dsimp only); repeat (first | exact trivial | refine ⟨rfl, ?_⟩ | refine ⟨by rw [hst]; rfl, ?_⟩)) slz_
  ·
   have hkn : z.k = game := by simp only [decide_eq_false_iff_not] at h2; omega
   have hbd := befTo_bd first ((first + game + t) % 2) z.k
   rw [← hzc] at hbd
   refine et ?_
   iterate 2 refine q_then_exit ?_
   refine q_blk_hit ?_
   refine q_seq ?_
   refine sr ?_
   iterate 9 refine ww ?_
   refine nq ?_
   refine rtn ?_
   refine q_ret (hR := ?_)
   exact fun w hS => ⟨by rw [hkn] at hzc; rw [hzc]; rfl, hS.sub slz_⟩
theorem C_ref1_Server (f : Fmt) (first : Int) (game : Nat) (tie : Bool) (pt : Int) (hfs : 0 ≤ first ∧ first ≤ 1) (hg : game ≤ 1000) (hp : 0 ≤ pt ∧ pt ≤ 10000) (w : World) : C0 Tryz.prog 141 [f.val, .int .i64 first, .int .i64 game, .bool tie, .int .i64 pt] w (.int .i64 (servR f first game tie pt)) :=
 C_ref1_Server' f first game tie pt _ hfs hg hp rfl w
end Go.Proofs.YthkliiifllhacaaGreat

namespace Go.Proofs.YthkliiifllhacaaGreat
open Go Go.RowKit

structure RS where
 (st : List Pr) (g p : Pr) (server ends balls winner first : Int) (gs : List Gm) (fresh : Bool)
abbrev RS.cells (r : RS) (sA : Option Addr) (sc : Nat) (gA : Option Addr) (gc : Nat) : List Value := [.slice sA r.st.length sc, .int .i64 r.g.1, .int .i64 r.g.2, .int .i64 r.p.1, .int .i64 r.p.2, .int .i64 r.server, .int .i64 r.ends, .int .i64 r.balls, .int .i64 r.winner, .int .i64 r.first, .slice gA r.gs.length gc, .bool r.fresh]
abbrev RS.val (r : RS) (sA : Option Addr) (sc : Nat) (gA : Option Addr) (gc : Nat) : Value := .agg #[.slice sA r.st.length sc, .int .i64 r.g.1, .int .i64 r.g.2, .int .i64 r.p.1, .int .i64 r.p.2, .int .i64 r.server, .int .i64 r.ends, .int .i64 r.balls, .int .i64 r.winner, .int .i64 r.first, .slice gA r.gs.length gc, .bool r.fresh]
def gsTie (gs : List Gm) (i : Int) : Bool := match gs[i.toNat]? with | some g => g.tie | none => false
def rFresh (f : Fmt) (r : RS) : Bool := dueV f r.gs.length && !tiedV f r.st r.g || (decide (2 ≤ (r.gs.length : Int)) && dueV f ((r.gs.length : Int) - 2) && gsTie r.gs ((r.gs.length : Int) - 2))
def rBegin (f : Fmt) (r : RS) : RS := { r with fresh := rFresh f r, balls := bif rFresh f r then r.balls + 1 else r.balls }
theorem gs_tie {gs : List Gm} {i : Int} {g : Gm} (h : gs[i.toNat]? = some g) : gsTie gs i = g.tie := by rw [gsTie, h]
theorem encG_at {gs : List Gm} {i : Nat} {g : Gm} (h : gs[i]? = some g) : (encG gs)[i]? = some g.enc := by simp [encG, h]

theorem C_ref1_begin (f : Fmt) (r : RS) (sA : Option Addr) (sc : Nat) (gA : Option Addr) (gc n m : Nat) (hf : f.Ok) (w : World) (h : Rd w sA 2 n (encP r.st)) (h' : Rd w gA 7 m (encG r.gs)) (hn : n ≤ 1000) (hm : m ≤ 1000) (hb : 0 ≤ r.balls ∧ r.balls ≤ 1000000) :
  C0 Tryz.prog 136 [f.val, r.val sA sc gA gc] w ((rBegin f r).val sA sc gA gc) := by
 obtain rfl : r.st.length = n := by have := h.len; simpa [encP] using this
 obtain rfl : r.gs.length = m := by have := h'.len; simpa [encG] using this
 have hfr : rFresh f r = rFresh f r := rfl
 refine ⟨en Tryz.func136 Tryz.ntmps136 (((St.init w).share (e := .ro sA 2 r.st.length (encP r.st)) h rfl rfl rfl).share (e := .ro gA 7 r.gs.length (encG r.gs)) h' rfl rfl rfl) (h := fun F => ?_)⟩
 refine sr ?_
 refine bxA (h := fun b0 => ?_)
 refine bxA (h := fun b1 => ?_)
 refine al (h := fun b2 => ?_)
 refine nr ?_
 iterate 4 refine ww ?_
 refine nr ?_
 iterate 4 refine ww ?_
 refine cl0 (hc := fun w hS => C_ref1_tied f ⟨r.st, r.g, r.p⟩ sA r.st.length sc hf w (hS.get rdz_) (by omega)) (h := ?_)
 iterate 5 refine ww ?_
 refine nr ?_
 iterate 2 refine ww ?_
 refine cl0 (hc := fun w hS => C_ref1_due _ _ (by assumption) (by omega) w) (h := ?_)
 refine ww ?_
 apply brAnd 3 22 25 (by exact rfl)
 ·
  intro hb0
  iterate 2 refine uw ?_
  refine ww ?_
  exact mg (by repeat (first | exact trivial | refine ⟨rfl, ?_⟩ | refine ⟨by rw [hb0]; rfl, ?_⟩)) slz_
 ·
  intro hb0
  repeat (first | refine uz ?_ | refine kz ?_ | refine wz ?_)
  exact mg (by repeat (first | exact trivial | refine ⟨rfl, ?_⟩ | refine ⟨by rw [hb0]; rfl, ?_⟩)) slz_
 refine ww ?_
 apply brOr 18 26 44 (by exact rfl)
 ·
  intro hb1
  iterate 3 refine uw ?_
  apply brAnd 5 29 34 (by exact rfl)
  ·
   intro hb2
   have h2 : 2 ≤ r.gs.length := by simp only [decide_eq_true_eq] at hb2; omega
   iterate 3 refine uw ?_
   refine uz ?_
   refine cl0 (hc := fun w hS => C_ref1_due _ _ (by assumption) (by omega) w) (h := ?_)
   refine uw ?_
   exact mg (by repeat (first | exact trivial | refine ⟨rfl, ?_⟩ | refine ⟨by rw [hb2]; rfl, ?_⟩ | refine ⟨by rw [hb1]; rfl, ?_⟩)) slz_
  ·
   intro hb2
   repeat (first | refine uz ?_ | refine kz ?_ | refine wz ?_)
   exact mg (by repeat (first | exact trivial | refine ⟨rfl, ?_⟩ | refine ⟨by rw [hb2]; rfl, ?_⟩ | refine ⟨by rw [hb1]; rfl, ?_⟩)) slz_
  refine uw ?_
  apply brAnd 8 35 43 (by exact rfl)
  ·
   intro hb3
   have h2 : 2 ≤ r.gs.length := by simp only [Bool.and_eq_true, decide_eq_true_eq] at hb3; omega
   obtain ⟨g, hg⟩ : ∃ g, r.gs[((r.gs.length : Int) - 2).toNat]? = some g := ⟨_, List.getElem?_eq_getElem (by omega)⟩
   have hge : (encG r.gs)[((r.gs.length : Int) - 2).toNat]? = some [.int .i64 g.set, .bool (gsTie r.gs ((r.gs.length : Int) - 2)), .int .i64 g.server, .int .i64 g.winner, .int .i64 g.pts.1, .int .i64 g.pts.2, .bool g.fresh] := by rw [gs_tie hg]; exact encG_at hg
   iterate 4 refine uw ?_
   refine uz ?_
   refine wy (ix (A := gA) (m := r.gs.length) (hb := by omega)) ?_
   refine uw ?_
   refine uz ?_
   refine wy (ldE (hk := hge)) ?_
   refine uw ?_
   exact mg (by repeat (first | exact trivial | refine ⟨rfl, ?_⟩ | refine ⟨by rw [hb3]; rfl, ?_⟩ | refine ⟨by rw [hb1]; rfl, ?_⟩)) slz_
  ·
   intro hb3
   repeat (first | refine uz ?_ | refine kz ?_ | refine wz ?_)
   exact mg (by repeat (first | exact trivial | refine ⟨rfl, ?_⟩ | refine ⟨by rw [hb3]; rfl, ?_⟩ | refine ⟨by rw [hb1]; rfl, ?_⟩)) slz_
  refine ww ?_
  exact mg (by repeat (first | exact trivial | refine ⟨rfl, ?_⟩ | refine ⟨by rw [hb1]; rfl, ?_⟩)) slz_
 ·
  intro hb1
  repeat (first | refine uz ?_ | refine kz ?_ | refine wz ?_)
  exact mg (by repeat (first | exact trivial | refine ⟨rfl, ?_⟩ | refine ⟨by rw [hb1]; rfl, ?_⟩)) slz_
 refine ww ?_
 first | refine st (h := ?_) | refine stE (h := ?_)
 refine nq ?_
 refine sq ?_
 refine sr ?_
 iterate 2 refine ww ?_
 refine nq ?_
 refine czz (fun h4 => ?_) fun h4 => ?_
 ·
  have hB : rBegin f r = { r with fresh := rFresh f r, balls := r.balls + 1 } := by
   have h' : rFresh f r = true := h4
   simp only [rBegin, h', cond_true]
  refine rg ?_
  iterate 6 refine ww ?_
  first | refine st (h := ?_) | refine stE (h := ?_)
  refine nr ?_
  refine ww ?_
  first | refine stA (h := ?_) | refine stEA (h := ?_)
  refine nq ?_
  refine rtn ?_
  refine q_ret (hR := ?_)
  rw [hB]
  exact fun w hS => ⟨rfl, hS.sub slz_⟩
 ·
  have hB : rBegin f r = { r with fresh := rFresh f r, balls := r.balls } := by
   have h' : rFresh f r = false := h4
   simp only [rBegin, h', cond_false]
  refine skp ?_
  refine q_seq ?_
  refine sr ?_
  refine ww ?_
  first | refine stA (h := ?_) | refine stEA (h := ?_)
  refine nq ?_
  refine rtn ?_
  refine q_ret (hR := ?_)
  rw [hB]
  exact fun w hS => ⟨rfl, hS.sub slz_⟩

def rW (f : Fmt) (r : RS) (side : Int) : Int := bif tiedV f r.st r.g then leadsV (addV r.p side) (setV f (wonV r.st)).2 2 else gameR f (addV r.p side)
def rEnds (f : Fmt) (r : RS) (side : Int) : Int := bif tiedV f r.st r.g && (decide (rW f r side < 0) && decide (((addV r.p side).1 + (addV r.p side).2) % 6 = 0)) then r.ends + 1 else r.ends
def rN (f : Fmt) (r : RS) (side : Int) : RS := { r with p := addV r.p side, ends := rEnds f r side }
def rGm (f : Fmt) (r : RS) (side : Int) : Gm := ⟨r.st.length, tiedV f r.st r.g, servR f r.first r.gs.length (tiedV f r.st r.g) 0, rW f r side, addV r.p side, r.fresh⟩
def rG (f : Fmt) (r : RS) (side : Int) : RS := { r with p := (0, 0), gs := r.gs ++ [rGm f r side], g := addV r.g (rW f r side) }
def rSet (f : Fmt) (r : RS) (side : Int) : Bool := tiedV f r.st r.g || decide (0 ≤ leadsV (addV r.g (rW f r side)) f.games 2)
def rS (f : Fmt) (r : RS) (side : Int) : RS := bif rSet f r side then { rG f r side with st := r.st ++ [addV r.g (rW f r side)], g := (0, 0) } else rG f r side
def rOver (f : Fmt) (r : RS) (side : Int) : Bool := rSet f r side && (decide ((wonV (r.st ++ [addV r.g (rW f r side)])).1 = f.sets) || decide ((wonV (r.st ++ [addV r.g (rW f r side)])).2 = f.sets))
def rOdd (f : Fmt) (r : RS) (side : Int) : Bool := decide (((addV r.g (rW f r side)).1 + (addV r.g (rW f r side)).2) % 2 = 1)
def rPoint (f : Fmt) (r : RS) (side : Int) : RS :=
 bif decide (rW f r side < 0) then rN f r side else bif rOver f r side then { rS f r side with winner := rW f r side }
 else rBegin f { rS f r side with ends := bif rOdd f r side then (rS f r side).ends + 1 else (rS f r side).ends }
structure RS.Bd (r : RS) (K : Int) : Prop where
 k : 0 ≤ K ∧ K ≤ 990
 fst : 0 ≤ r.first ∧ r.first ≤ 1
 g : (0 ≤ r.g.1 ∧ r.g.1 ≤ K) ∧ 0 ≤ r.g.2 ∧ r.g.2 ≤ K
 p : (0 ≤ r.p.1 ∧ r.p.1 ≤ K) ∧ 0 ≤ r.p.2 ∧ r.p.2 ≤ K
 e : 0 ≤ r.ends ∧ r.ends ≤ K
 b : 0 ≤ r.balls ∧ r.balls ≤ K + 1
 s : (r.st.length : Int) ≤ K
 gs : (r.gs.length : Int) ≤ K
theorem rS_ends (f : Fmt) (r : RS) (side : Int) : (rS f r side).ends = r.ends := by unfold rS rG; cases rSet f r side <;> rfl
theorem rS_balls (f : Fmt) (r : RS) (side : Int) : (rS f r side).balls = r.balls := by unfold rS rG; cases rSet f r side <;> rfl
theorem rS_gs (f : Fmt) (r : RS) (side : Int) : (rS f r side).gs.length = r.gs.length + 1 := by unfold rS rG; cases rSet f r side <;> simp
theorem rS_st (f : Fmt) (r : RS) (side : Int) : (rS f r side).st.length ≤ r.st.length + 1 := by unfold rS rG; cases rSet f r side <;> simp
structure RA where
 (sA gA : Option Addr) (sc gc : Nat)

set_option maxRecDepth 100000 in
set_option maxHeartbeats 2000000 in
theorem T_ref1_Point (f : Fmt) (r : RS) (side K : Int) (sA : Option Addr) (sc : Nat) (gA : Option Addr) (gc : Nat) (hf : f.Ok) (hB : r.Bd K) :
  Tr Tryz.prog 96 [f.val, r.val sA sc gA gc, .int .i64 side] [.own sA sc 73 2 r.st.length (encP r.st), .own gA gc 229 7 r.gs.length (encG r.gs)] (fun _ : RA => True) (fun x => (rPoint f r side).val x.sA x.sc x.gA x.gc)
   (fun x => [.own x.sA x.sc 73 2 (rPoint f r side).st.length (encP (rPoint f r side).st), .own x.gA x.gc 229 7 (rPoint f r side).gs.length (encG (rPoint f r side).gs)]) := by
 refine ⟨fun w0 w R hst => ?_⟩
 obtain ⟨hk, hfst, hg, hp, he, hb, hsl, hgl⟩ := hB
 have hSp : Sm r.p := sm_of hp (by omega)
 have hSp1 : Sm (addV r.p side) := sm_of (addV_bd (side := side) hp) (by omega)
 have hSg : Sm r.g := sm_of hg (by omega)
 have hSg1 : Sm (addV r.g (rW f r side)) := sm_of (addV_bd (side := rW f r side) hg) (by omega)
 have hgb := addV_bd (side := rW f r side) hg
 have hpb := addV_bd (side := side) hp
 have hse1 := rS_ends f r side
 have hsb1 := rS_balls f r side
 have hsg1 := rS_gs f r side
 have hss1 := rS_st f r side
 have hsl1 : (r.gs ++ [rGm f r side]).length = 0 + r.gs.length + 1 := by simp
 have hsl2 : encG (r.gs ++ [rGm f r side]) = [] ++ encG r.gs ++ [(rGm f r side).enc] := by simp [encG]
 have hsl3 : (r.st ++ [addV r.g (rW f r side)]).length = 0 + r.st.length + 1 := by simp
 have hsl4 : encP (r.st ++ [addV r.g (rW f r side)]) = [] ++ encP r.st ++ [[.int .i64 (addV r.g (rW f r side)).1, .int .i64 (addV r.g (rW f r side)).2]] := by simp [encP]
 refine en Tryz.func96 Tryz.ntmps96 hst (h := fun F => ?_)
 refine sr ?_
 refine bxA (h := fun b0 => ?_)
 refine bxA (h := fun b1 => ?_)
 refine al (h := fun b2 => ?_)
 refine nr ?_
 iterate 4 refine ww ?_
 refine cl0 (hc := fun w hS => C_ref1_tied f ⟨r.st, r.g, r.p⟩ sA r.st.length sc hf w (hS.get rdz_) (by omega)) (h := ?_)
 iterate 5 refine ww ?_
 refine nr ?_
 iterate 5 refine ww ?_
 refine cl0 (hc := fun w hS => C_ref1_plus _ _ (by assumption) w) (h := ?_)
 iterate 3 refine ww ?_
 first | refine stA (h := ?_) | refine stEA (h := ?_)
 refine nr ?_
 iterate 4 refine ww ?_
 refine al (h := fun b3 => ?_)
 first | refine stA (h := ?_) | refine stEA (h := ?_)
 refine nr ?_
 iterate 2 refine ww ?_
 refine cl0 (hc := fun w hS => C_ref1_game _ _ (by assumption) w) (h := ?_)
 refine ww ?_
 refine nq ?_
 refine ct (X := Unit) (fun _ => True) (fun _ => [(3, .pointer (some ⟨b0, 0, none⟩)), (4, .pointer (some ⟨b1, 0, none⟩)), (6, .pointer (some ⟨b2, 0, none⟩)), (7, .bool (tiedV f r.st r.g)), (9, .pointer (some ⟨b3, 0, none⟩)), (10, .int .i64 (rW f r side))]) (fun _ => .blk b0 49 f.cells :: .blk b1 126 ((rN f r side).cells sA sc gA gc) :: .blk b2 126 [.slice none 0 0, .int .i64 0, .int .i64 0, .int .i64 0, .int .i64 0, .int .i64 0, .int .i64 0, .int .i64 0, .int .i64 0, .int .i64 0, .slice none 0 0, .bool false] :: .blk b3 73 [.int .i64 (addV r.p side).1, .int .i64 (addV r.p side).2] :: .own sA sc 73 2 r.st.length (encP r.st) :: .own gA gc 229 7 r.gs.length (encG r.gs) :: R) (h1 := ?_) (h2 := ?_)
 ·
  refine sr ?_
  refine ww ?_
  refine nq ?_
  refine czz (fun h0 => ?_) fun h0 => ?_
  ·
   have hti : tiedV f r.st r.g = true := h0
   have hW : rW f r side = leadsV (addV r.p side) (setV f (wonV r.st)).2 2 := by rw [rW, hti]; rfl
   refine sr ?_
   iterate 2 refine ww ?_
   refine cl0 (hc := fun w hS => C_ref1_leads _ _ (by assumption) w) (h := ?_)
   refine ww ?_
   refine nq ?_
   refine sq ?_
   refine WC.sub (l' := [(3, .pointer (some ⟨b0, 0, none⟩)), (4, .pointer (some ⟨b1, 0, none⟩)), (6, .pointer (some ⟨b2, 0, none⟩)), (7, .bool (tiedV f r.st r.g)), (9, .pointer (some ⟨b3, 0, none⟩)), (10, .int .i64 (leadsV (addV r.p side) (setV f (wonV r.st)).2 2))]) sbz_ ?_
   refine rg ?_
   iterate 3 refine ww ?_
   apply brAnd 8 44 52 (by exact rfl)
   ·
    intro hb1
    iterate 7 refine uw ?_
    refine ww ?_
    exact mg (by repeat (first | exact trivial | refine ⟨rfl, ?_⟩ | refine ⟨by rw [hb1]; rfl, ?_⟩)) slz_
   ·
    intro hb1
    repeat (first | refine uz ?_ | refine kz ?_ | refine wz ?_)
    exact mg (by repeat (first | exact trivial | refine ⟨rfl, ?_⟩ | refine ⟨by rw [hb1]; rfl, ?_⟩)) slz_
   refine nq ?_
   refine czz (fun h2 => ?_) fun h2 => ?_
   ·
    have hE : rEnds f r side = r.ends + 1 := by
     have h' : (decide (leadsV (addV r.p side) (setV f (wonV r.st)).2 2 < 0) && decide (((addV r.p side).1 + (addV r.p side).2) % 6 = 0)) = true := h2
     rw [rEnds, hti, hW, h']; rfl
    refine rg ?_
    iterate 6 refine ww ?_
    first | refine st (h := ?_) | refine stE (h := ?_)
    refine nl ?_
    exact ctn () trivial (by repeat (first | exact trivial | refine ⟨rfl, ?_⟩ | refine ⟨by rw [hW]; rfl, ?_⟩)) (by dsimp only [rN, RS.cells]; rw [hE]; repeat (first | exact SubL.nil | (apply SubL.cons; (repeat (first | exact At.here | apply At.there))) | exact SubL.refl _ | apply SubL.skip))
   ·
    have hE : rEnds f r side = r.ends := by
     have h' : (decide (leadsV (addV r.p side) (setV f (wonV r.st)).2 2 < 0) && decide (((addV r.p side).1 + (addV r.p side).2) % 6 = 0)) = false := h2
     rw [rEnds, hti, hW, h']; rfl
    refine skp ?_
    exact ctn () trivial (by repeat (first | exact trivial | refine ⟨rfl, ?_⟩ | refine ⟨by rw [hW]; rfl, ?_⟩)) (by dsimp only [rN, RS.cells]; rw [hE]; repeat (first | exact SubL.nil | (apply SubL.cons; (repeat (first | exact At.here | apply At.there))) | exact SubL.refl _ | apply SubL.skip))
  ·
   have hti : tiedV f r.st r.g = false := h0
   have hW : rW f r side = gameR f (addV r.p side) := by rw [rW, hti]; rfl
   have hE : rEnds f r side = r.ends := by rw [rEnds, hti]; rfl
   refine skp ?_
   exact ctn () trivial (by repeat (first | exact trivial | refine ⟨rfl, ?_⟩ | refine ⟨by rw [hW]; rfl, ?_⟩)) (by dsimp only [rN, RS.cells]; rw [hE]; repeat (first | exact SubL.nil | (apply SubL.cons; (repeat (first | exact At.here | apply At.there))) | exact SubL.refl _ | apply SubL.skip))
 rintro ⟨⟩ -
 dsimp only [rN, RS.cells]
 refine sq ?_
 refine sr ?_
 iterate 2 refine ww ?_
 refine nq ?_
 refine czz (fun h3 => ?_) fun h3 => ?_
 ·
  have hlt : decide (rW f r side < 0) = true := h3
  have hP : rPoint f r side = rN f r side := by rw [rPoint, hlt]; rfl
  refine sr ?_
  refine ww ?_
  first | refine stA (h := ?_) | refine stEA (h := ?_)
  refine nq ?_
  refine rtn ?_
  refine q_then_ret ?_
  refine q_ret (hR := ?_)
  rw [hP]
  exact fun w hS => ⟨⟨sA, gA, sc, gc⟩, trivial, rfl, hS.sub slz_⟩
 ·
  have hlt : decide (rW f r side < 0) = false := h3
  have hE : rEnds f r side = r.ends := by rw [rEnds, hlt, Bool.false_and, Bool.and_false]; rfl
  rw [hE]
  refine skp ?_
  refine q_seq ?_
  refine sr ?_
  iterate 6 refine ww ?_
  refine nq ?_
  refine ct (X := Option Addr × Nat) (fun _ => True) (fun _ => [(3, .pointer (some ⟨b0, 0, none⟩)), (4, .pointer (some ⟨b1, 0, none⟩)), (6, .pointer (some ⟨b2, 0, none⟩)), (7, .bool (tiedV f r.st r.g)), (10, .int .i64 (rW f r side))]) (fun x => .blk b0 49 f.cells :: .blk b1 126 ({ r with p := addV r.p side, gs := r.gs ++ [rGm f r side] : RS}.cells sA sc x.1 x.2) :: .blk b2 126 [.slice none 0 0, .int .i64 0, .int .i64 0, .int .i64 0, .int .i64 0, .int .i64 0, .int .i64 0, .int .i64 0, .int .i64 0, .int .i64 0, .slice none 0 0, .bool false] :: .own sA sc 73 2 r.st.length (encP r.st) :: .own x.1 x.2 229 7 (r.gs ++ [rGm f r side]).length (encG (r.gs ++ [rGm f r side])) :: R) (h1 := ?_) (h2 := ?_)
  ·
   refine rgD (by kernel_rfl) [(22, .blk b1 126 [.slice sA r.st.length sc, .int .i64 r.g.1, .int .i64 r.g.2, .int .i64 (addV r.p side).1, .int .i64 (addV r.p side).2, .int .i64 r.server, .int .i64 r.ends, .int .i64 r.balls, .int .i64 r.winner, .int .i64 r.first, .slice gA r.gs.length gc, .bool r.fresh]), (1000000, .blk b0 49 f.cells), (1000000, .blk b3 73 [.int .i64 (addV r.p side).1, .int .i64 (addV r.p side).2])] (by repeat (first | exact HS.nil | (apply HS.keep; (repeat (first | exact At.here | apply At.there))) | (apply HS.ro; (repeat (first | exact Rds.ro | exact Rds.own | apply Rds.there))))) (h := ?_)
   refine tw 1 ?_
   refine tw 2 ?_
   refine tw 4 ?_
   refine tw 5 ?_
   refine tw 6 ?_
   refine tw 7 ?_
   refine tw 8 ?_
   refine tw 9 ?_
   refine tw 10 ?_
   refine tw 11 ?_
   refine tw 12 ?_
   refine tw 14 ?_
   refine tw 15 ?_
   refine tw 16 ?_
   refine tw 17 ?_
   refine one 0 (h := ?_)
   refine bs (h := fun b4 => ?_)
   refine nx (h := ?_)
   refine one 3 (h := ?_)
   first | refine ap (h := fun A1 c1 => ?_) | refine ap0 (h := fun A1 c1 => ?_)
   refine nx (h := ?_)
   refine one 13 (h := ?_)
   refine cl0 (hc := fun w hS => C_ref1_Server f r.first r.gs.length (tiedV f r.st r.g) 0 hfst (by omega) (by omega) w) (h := ?_)
   refine nx (h := ?_)
   refine tw 18 ?_
   refine one 19 (h := ?_)
   refine bs (h := fun b5 => ?_)
   refine nx (h := ?_)
   refine one 20 (h := ?_)
   first | refine ap (h := fun A2 c2 => ?_) | refine ap0 (h := fun A2 c2 => ?_)
   refine nx (h := ?_)
   refine tw 21 ?_
   refine one 22 (h := ?_)
   first | refine st (h := ?_) | refine stE (h := ?_)
   refine nx (h := ?_)
   refine dn (h := ?_)
   exact ctn ⟨_, _⟩ trivial sbz_ (by dsimp only [RS.cells]; rw [hsl1, hsl2]; repeat (first | exact SubL.nil | (apply SubL.cons; (repeat (first | exact At.here | apply At.there))) | exact SubL.refl _ | apply SubL.skip))
  rintro ⟨gA1, gc1⟩ -
  dsimp only [RS.cells]
  refine sr ?_
  iterate 4 refine ww ?_
  first | refine stA (h := ?_) | refine stEA (h := ?_)
  refine nr ?_
  iterate 5 refine ww ?_
  refine cl0 (hc := fun w hS => C_ref1_plus _ _ (by assumption) w) (h := ?_)
  refine al (h := fun b6 => ?_)
  first | refine stA (h := ?_) | refine stEA (h := ?_)
  refine nr ?_
  iterate 4 refine ww ?_
  first | refine stA (h := ?_) | refine stEA (h := ?_)
  refine nq ?_
  refine ct (X := Option Addr × Nat) (fun _ => rOver f r side = false) (fun _ => [(3, .pointer (some ⟨b0, 0, none⟩)), (4, .pointer (some ⟨b1, 0, none⟩)), (6, .pointer (some ⟨b2, 0, none⟩)), (12, .pointer (some ⟨b6, 0, none⟩))]) (fun x => .blk b0 49 f.cells :: .blk b1 126 ((rS f r side).cells x.1 x.2 gA1 gc1) :: .blk b2 126 [.slice none 0 0, .int .i64 0, .int .i64 0, .int .i64 0, .int .i64 0, .int .i64 0, .int .i64 0, .int .i64 0, .int .i64 0, .int .i64 0, .slice none 0 0, .bool false] :: .blk b6 73 [.int .i64 (addV r.g (rW f r side)).1, .int .i64 (addV r.g (rW f r side)).2] :: .own x.1 x.2 73 2 (rS f r side).st.length (encP (rS f r side).st) :: .own gA1 gc1 229 7 (rS f r side).gs.length (encG (rS f r side).gs) :: R) (h1 := ?_) (h2 := ?_)
  ·
   refine sr ?_
   iterate 2 refine ww ?_
   apply brOr 6 104 110 (by exact rfl)
   ·
    intro hb4
    iterate 3 refine uw ?_
    refine uz ?_
    refine cl0 (hc := fun w hS => C_ref1_leads _ _ (by assumption) w) (h := ?_)
    refine uw ?_
    refine ww ?_
    exact mg (by repeat (first | exact trivial | refine ⟨rfl, ?_⟩ | refine ⟨by rw [hb4]; rfl, ?_⟩)) slz_
   ·
    intro hb4
    repeat (first | refine uz ?_ | refine kz ?_ | refine wz ?_)
    exact mg (by repeat (first | exact trivial | refine ⟨rfl, ?_⟩ | refine ⟨by rw [hb4]; rfl, ?_⟩)) slz_
   refine nq ?_
   refine czz (fun h5 => ?_) fun h5 => ?_
   ·
    have hse : rSet f r side = true := h5
    have hS : rS f r side = { rG f r side with st := r.st ++ [addV r.g (rW f r side)], g := (0, 0) } := by rw [rS, hse]; rfl
    refine ct (X := Option Addr × Nat) (fun _ => True) (fun _ => [(3, .pointer (some ⟨b0, 0, none⟩)), (4, .pointer (some ⟨b1, 0, none⟩)), (6, .pointer (some ⟨b2, 0, none⟩)), (10, .int .i64 (rW f r side)), (12, .pointer (some ⟨b6, 0, none⟩))]) (fun x => .blk b0 49 f.cells :: .blk b1 126 ({ rG f r side with st := r.st ++ [addV r.g (rW f r side)] : RS}.cells x.1 x.2 gA1 gc1) :: .blk b2 126 [.slice none 0 0, .int .i64 0, .int .i64 0, .int .i64 0, .int .i64 0, .int .i64 0, .int .i64 0, .int .i64 0, .int .i64 0, .int .i64 0, .slice none 0 0, .bool false] :: .blk b6 73 [.int .i64 (addV r.g (rW f r side)).1, .int .i64 (addV r.g (rW f r side)).2] :: .own x.1 x.2 73 2 (r.st ++ [addV r.g (rW f r side)]).length (encP (r.st ++ [addV r.g (rW f r side)])) :: .own gA1 gc1 229 7 (r.gs ++ [rGm f r side]).length (encG (r.gs ++ [rGm f r side])) :: R) (h1 := ?_) (h2 := ?_)
    ·
     refine rgD (by kernel_rfl) [(12, .blk b1 126 [.slice sA r.st.length sc, .int .i64 (addV r.g (rW f r side)).1, .int .i64 (addV r.g (rW f r side)).2, .int .i64 0, .int .i64 0, .int .i64 r.server, .int .i64 r.ends, .int .i64 r.balls, .int .i64 r.winner, .int .i64 r.first, .slice gA1 (r.gs ++ [rGm f r side]).length gc1, .bool r.fresh]), (1000000, .blk b6 73 [.int .i64 (addV r.g (rW f r side)).1, .int .i64 (addV r.g (rW f r side)).2])] (by repeat (first | exact HS.nil | (apply HS.keep; (repeat (first | exact At.here | apply At.there))) | (apply HS.ro; (repeat (first | exact Rds.ro | exact Rds.own | apply Rds.there))))) (h := ?_)
     refine tw 1 ?_
     refine tw 2 ?_
     refine tw 3 ?_
     refine tw 4 ?_
     refine tw 6 ?_
     refine two 0 7 (h1 := ?_) (h2 := ?_)
     ·
      refine bs (h := fun b7 => ?_)
      refine nx (h := ?_)
      refine two 5 7 (h1 := ?_) (h2 := ?_)
      ·
       first | refine ap (h := fun A3 c3 => ?_) | refine ap0 (h := fun A3 c3 => ?_)
       refine nx (h := ?_)
       refine one 7 (h := ?_)
       refine bs (h := fun b8 => ?_)
       refine nx (h := ?_)
       refine one 8 (h := ?_)
       first | refine ap (h := fun A4 c4 => ?_) | refine ap0 (h := fun A4 c4 => ?_)
       refine nx (h := ?_)
       refine tw 9 ?_
       refine tw 10 ?_
       refine tw 11 ?_
       refine one 12 (h := ?_)
       first | refine st (h := ?_) | refine stE (h := ?_)
       refine nx (h := ?_)
       refine dn (h := ?_)
       exact ctn ⟨_, _⟩ trivial sbz_ (by dsimp only [rG, RS.cells]; rw [hsl3, hsl4]; repeat (first | exact SubL.nil | (apply SubL.cons; (repeat (first | exact At.here | apply At.there))) | exact SubL.refl _ | apply SubL.skip))
      ·
       refine bs (h := fun b9 => ?_)
       refine nx (h := ?_)
       refine one 5 (h := ?_)
       first | refine ap (h := fun A5 c5 => ?_) | refine ap0 (h := fun A5 c5 => ?_)
       refine nx (h := ?_)
       refine one 8 (h := ?_)
       first | refine ap (h := fun A6 c6 => ?_) | refine ap0 (h := fun A6 c6 => ?_)
       refine nx (h := ?_)
       refine tw 9 ?_
       refine tw 10 ?_
       refine tw 11 ?_
       refine one 12 (h := ?_)
       first | refine st (h := ?_) | refine stE (h := ?_)
       refine nx (h := ?_)
       refine dn (h := ?_)
       exact ctn ⟨_, _⟩ trivial sbz_ (by dsimp only [rG, RS.cells]; rw [hsl3, hsl4]; repeat (first | exact SubL.nil | (apply SubL.cons; (repeat (first | exact At.here | apply At.there))) | exact SubL.refl _ | apply SubL.skip))
     ·
      refine bs (h := fun b10 => ?_)
      refine nx (h := ?_)
      refine one 0 (h := ?_)
      refine bs (h := fun b11 => ?_)
      refine nx (h := ?_)
      refine one 5 (h := ?_)
      first | refine ap (h := fun A7 c7 => ?_) | refine ap0 (h := fun A7 c7 => ?_)
      refine nx (h := ?_)
      refine one 8 (h := ?_)
      first | refine ap (h := fun A8 c8 => ?_) | refine ap0 (h := fun A8 c8 => ?_)
      refine nx (h := ?_)
      refine tw 9 ?_
      refine tw 10 ?_
      refine tw 11 ?_
      refine one 12 (h := ?_)
      first | refine st (h := ?_) | refine stE (h := ?_)
      refine nx (h := ?_)
      refine dn (h := ?_)
      exact ctn ⟨_, _⟩ trivial sbz_ (by dsimp only [rG, RS.cells]; rw [hsl3, hsl4]; repeat (first | exact SubL.nil | (apply SubL.cons; (repeat (first | exact At.here | apply At.there))) | exact SubL.refl _ | apply SubL.skip))
    rintro ⟨sA1, sc1⟩ -
    dsimp only [rG, RS.cells]
    refine sr ?_
    iterate 4 refine ww ?_
    first | refine stA (h := ?_) | refine stEA (h := ?_)
    refine nr ?_
    iterate 4 refine ww ?_
    refine cl0 (hc := fun w hS => C_ref1_Won (r.st ++ [addV r.g (rW f r side)]) sA1 _ sc1 w (hS.get rdz_) (by omega)) (h := ?_)
    refine al (h := fun b12 => ?_)
    first | refine stA (h := ?_) | refine stEA (h := ?_)
    refine nr ?_
    iterate 6 refine ww ?_
    apply brOr 6 137 143 (by exact rfl)
    ·
     intro hb6
     iterate 5 refine uw ?_
     refine ww ?_
     exact mg (by repeat (first | exact trivial | refine ⟨rfl, ?_⟩ | refine ⟨by rw [hb6]; rfl, ?_⟩)) slz_
    ·
     intro hb6
     repeat (first | refine uz ?_ | refine kz ?_ | refine wz ?_)
     exact mg (by repeat (first | exact trivial | refine ⟨rfl, ?_⟩ | refine ⟨by rw [hb6]; rfl, ?_⟩)) slz_
    refine nq ?_
    refine czz (fun h7 => ?_) fun h7 => ?_
    ·
     have hO : rOver f r side = true := by rw [rOver, hse]; exact h7
     have hP : rPoint f r side = { rS f r side with winner := rW f r side } := by rw [rPoint, hlt, hO]; rfl
     refine sr ?_
     iterate 3 refine ww ?_
     first | refine st (h := ?_) | refine stE (h := ?_)
     refine nr ?_
     refine ww ?_
     first | refine stA (h := ?_) | refine stEA (h := ?_)
     refine nq ?_
     refine rtn ?_
     refine q_then_ret ?_
     refine q_ret (hR := ?_)
     rw [hP, hS]
     exact fun w hS => ⟨⟨sA1, gA1, sc1, gc1⟩, trivial, rfl, hS.sub slz_⟩
    ·
     have hO : rOver f r side = false := by rw [rOver, hse]; exact h7
     refine skp ?_
     first
      | exact ctn (x := (sA1, sc1)) hO sbz_ (by rw [hS]; dsimp only [rG, RS.cells]; repeat (first | exact SubL.nil | (apply SubL.cons; (repeat (first | exact At.here | apply At.there))) | exact SubL.refl _ | apply SubL.skip))
      | exact ctn (x := (sA, sc)) hO sbz_ (by rw [hS]; dsimp only [rG, RS.cells]; repeat (first | exact SubL.nil | (apply SubL.cons; (repeat (first | exact At.here | apply At.there))) | exact SubL.refl _ | apply SubL.skip))
   ·
    have hse : rSet f r side = false := h5
    have hS : rS f r side = rG f r side := by rw [rS, hse]; rfl
    have hO : rOver f r side = false := by rw [rOver, hse]; rfl
    refine skp ?_
    first
     | exact ctn (x := (sA1, sc1)) hO sbz_ (by rw [hS]; dsimp only [rG, RS.cells]; repeat (first | exact SubL.nil | (apply SubL.cons; (repeat (first | exact At.here | apply At.there))) | exact SubL.refl _ | apply SubL.skip))
     | exact ctn (x := (sA, sc)) hO sbz_ (by rw [hS]; dsimp only [rG, RS.cells]; repeat (first | exact SubL.nil | (apply SubL.cons; (repeat (first | exact At.here | apply At.there))) | exact SubL.refl _ | apply SubL.skip))
  rintro ⟨sA2, sc2⟩ hO
  dsimp only [RS.cells]
  refine sq ?_
  refine sr ?_
  iterate 7 refine ww ?_
  refine nq ?_
  refine czz (fun h8 => ?_) fun h8 => ?_
  ·
   have hP : rPoint f r side = rBegin f { rS f r side with ends := (rS f r side).ends + 1 } := by
    have h' : rOdd f r side = true := h8
    rw [rPoint, hlt, hO, h']; rfl
   obtain ⟨r2, hr2⟩ : ∃ r2 : RS, r2 = { rS f r side with ends := (rS f r side).ends + 1 } := ⟨_, rfl⟩
   refine rg ?_
   iterate 6 refine ww ?_
   first | refine st (h := ?_) | refine stE (h := ?_)
   refine nr ?_
   iterate 2 refine ww ?_
   refine cl0 (hc := fun w hS => C_ref1_begin f r2 sA2 sc2 gA1 gc1 (rS f r side).st.length (rS f r side).gs.length hf w (hS.get (by subst hr2; repeat (first | exact Rds.ro | exact Rds.own | apply Rds.there))) (hS.get (by subst hr2; repeat (first | exact Rds.ro | exact Rds.own | apply Rds.there))) (by omega) (by omega) (by subst hr2; dsimp only; omega)) (hargs := by subst hr2; repeat (first | exact Evs.nil | (apply Evs.cons; exact rfl))) (h := ?_)
   first | refine stA (h := ?_) | refine stEA (h := ?_)
   refine nq ?_
   refine rtn ?_
   refine q_ret (hR := ?_)
   rw [hP, ← hr2]
   exact fun w hS => ⟨⟨sA2, gA1, sc2, gc1⟩, trivial, rfl, hS.sub (by subst hr2; dsimp only [rBegin]; repeat (first | exact SubL.nil | (apply SubL.cons; (repeat (first | exact At.here | apply At.there))) | exact SubL.refl _ | apply SubL.skip))⟩
  ·
   have hP : rPoint f r side = rBegin f { rS f r side with ends := (rS f r side).ends } := by
    have h' : rOdd f r side = false := h8
    rw [rPoint, hlt, hO, h']; rfl
   obtain ⟨r2, hr2⟩ : ∃ r2 : RS, r2 = { rS f r side with ends := (rS f r side).ends } := ⟨_, rfl⟩
   refine skp ?_
   refine q_seq ?_
   refine sr ?_
   iterate 2 refine ww ?_
   refine cl0 (hc := fun w hS => C_ref1_begin f r2 sA2 sc2 gA1 gc1 (rS f r side).st.length (rS f r side).gs.length hf w (hS.get (by subst hr2; repeat (first | exact Rds.ro | exact Rds.own | apply Rds.there))) (hS.get (by subst hr2; repeat (first | exact Rds.ro | exact Rds.own | apply Rds.there))) (by omega) (by omega) (by subst hr2; dsimp only; omega)) (hargs := by subst hr2; repeat (first | exact Evs.nil | (apply Evs.cons; exact rfl))) (h := ?_)
   first | refine stA (h := ?_) | refine stEA (h := ?_)
   refine nq ?_
   refine rtn ?_
   refine q_ret (hR := ?_)
   rw [hP, ← hr2]
   exact fun w hS => ⟨⟨sA2, gA1, sc2, gc1⟩, trivial, rfl, hS.sub (by subst hr2; dsimp only [rBegin]; repeat (first | exact SubL.nil | (apply SubL.cons; (repeat (first | exact At.here | apply At.there))) | exact SubL.refl _ | apply SubL.skip))⟩
end Go.Proofs.YthkliiifllhacaaGreat

namespace Go.Proofs.YthkliiifllhacaaGreat
open Go Go.RowKit

theorem leads_n {p : Pr} {l b : Int} : leadsV p l b = -1 ↔ ¬ (l ≤ p.1 ∧ b ≤ p.1 - p.2) ∧ ¬ (l ≤ p.2 ∧ b ≤ p.2 - p.1) := by
 unfold leadsV
 cases h1 : decide (l ≤ p.1) && decide (b ≤ p.1 - p.2)
 ·
  cases h2 : decide (l ≤ p.2) && decide (b ≤ p.2 - p.1)
  ·
   simp at h1 h2 ⊢; omega
  ·
   simp at h1 h2 ⊢; omega
 ·
  simp at h1 ⊢; omega
theorem leads_0 {p : Pr} {l b : Int} : leadsV p l b = 0 ↔ (l ≤ p.1 ∧ b ≤ p.1 - p.2) := by
 unfold leadsV
 cases h1 : decide (l ≤ p.1) && decide (b ≤ p.1 - p.2)
 ·
  cases h2 : decide (l ≤ p.2) && decide (b ≤ p.2 - p.1) <;> simp at h1 h2 ⊢ <;> omega
 ·
  simp at h1 ⊢; omega
theorem leads_1 {p : Pr} {l b : Int} (hb : 1 ≤ b) : leadsV p l b = 1 ↔ (l ≤ p.2 ∧ b ≤ p.2 - p.1) := by
 unfold leadsV
 cases h1 : decide (l ≤ p.1) && decide (b ≤ p.1 - p.2)
 ·
  cases h2 : decide (l ≤ p.2) && decide (b ≤ p.2 - p.1) <;> simp at h1 h2 ⊢ <;> omega
 ·
  simp at h1 ⊢; omega
theorem add_0 (p : Pr) : addV p 0 = (p.1 + 1, p.2) := rfl
theorem add_1 (p : Pr) : addV p 1 = (p.1, p.2 + 1) := rfl
theorem add_sum (p : Pr) (side : Int) : (addV p side).1 + (addV p side).2 = p.1 + p.2 + 1 := by
 unfold addV; cases decide (side = 0) <;> simp only [cond_true, cond_false] <;> omega
theorem leads_add {p : Pr} {l b side : Int} (hb : 1 ≤ b) (hs : side = 0 ∨ side = 1) (h : leadsV p l b = -1) : leadsV (addV p side) l b = -1 ∨ leadsV (addV p side) l b = side := by
 rw [leads_n] at h
 rcases hs with rfl | rfl
 ·
  by_cases h0 : leadsV (addV p 0) l b = 0
  ·
   exact .inr h0
  ·
   left
   rw [leads_n]
   rw [leads_0] at h0
   rw [add_0] at h0 ⊢
   exact ⟨h0, by simp only; omega⟩
 ·
  by_cases h0 : leadsV (addV p 1) l b = 1
  ·
   exact .inr h0
  ·
   left
   rw [leads_n]
   rw [leads_1 hb] at h0
   rw [add_1] at h0 ⊢
   exact ⟨by simp only; omega, h0⟩
theorem game_add {f : Fmt} {s p : Pr} {t : Bool} {side : Int} (hs : side = 0 ∨ side = 1) (h : gameV f s t p = -1) : gameV f s t (addV p side) = -1 ∨ gameV f s t (addV p side) = side := by
 unfold gameV at *
 cases t
 ·
  cases hn : f.noAd <;> rw [hn] at h <;> exact leads_add (by omega) hs h
 ·
  exact leads_add (by omega) hs h

theorem befTo_half (first side : Int) (hf : 0 ≤ first ∧ first ≤ 1) (hs : 0 ≤ side ∧ side ≤ 1) : ∀ k : Nat, befTo first side k = if first = side then ((k : Int) + 1) / 2 else (k : Int) / 2
 | 0 => by simp [befTo]
 | k + 1 => by
  rw [befTo, befTo_half first side hf hs k]
  by_cases h1 : (first + (k : Int)) % 2 = side
  ·
   rw [decide_eq_true h1]
   by_cases h2 : first = side
   ·
    simp only [if_pos h2, cond_true]; omega
   ·
    simp only [if_neg h2, cond_true]; omega
  ·
   rw [decide_eq_false h1]
   by_cases h2 : first = side
   ·
    simp only [if_pos h2, cond_false]; omega
   ·
    simp only [if_neg h2, cond_false]; omega
theorem serv_eq {f : Fmt} {first : Int} {game : Nat} {ties : List Bool} {tie : Bool} {pt : Int} (hf : 0 ≤ first ∧ first ≤ 1) (hl : ties.length = game + 1) (ht : tieI ties ((ties.length : Int) - 1) = tie) (hp : 0 ≤ pt) : servR f first game tie pt = servesV f first ties pt := by
 have hg : (ties.length : Int) - 1 = game := by omega
 have htu : turnV ties pt = turnR tie pt := by unfold turnV turnR; rw [ht]
 have ht0 : 0 ≤ turnR tie pt := by unfold turnR; cases tie <;> simp <;> omega
 unfold servR servesV
 rw [htu, hg]
 generalize turnR tie pt = t at *
 cases f.dbl
 ·
  rfl
 ·
  simp only [Bool.not_true, cond_false]
  rw [befTo_half first _ hf (by omega)]
  by_cases h : first = (first + (game : Int) + t) % 2
  ·
   rw [if_pos h]; omega
  ·
   rw [if_neg h]; omega

theorem tieI_app {l : List Bool} {b : Bool} : tieI (l ++ [b]) ((((l ++ [b]).length : Nat) : Int) - 1) = b := by
 have : ((((l ++ [b]).length : Nat) : Int) - 1).toNat = l.length := by simp
 rw [tieI, this]
 simp
theorem tieI_at {l : List Bool} {i : Nat} {b : Bool} (h : l[i]? = some b) : tieI l (i : Int) = b := by simp [tieI, h]

structure MS.Inv (m : MS) : Prop where
 w : m.winner = -1
 won : m.won = wonV m.st
 tl : m.ties.length = m.gs.length + 1
 te : ∀ (i : Nat) g, m.gs[i]? = some g → m.ties[i]? = some g.tie
 ta : m.tie = brksV (setV m.f m.won) m.g
 g0 : 0 ≤ m.g.1 ∧ 0 ≤ m.g.2
 ld : leadsV m.g m.f.games 2 = -1
 ad : m.f.noAd = true → m.tie = false → m.p.1 < 4 ∧ m.p.2 < 4
 go : gameV m.f (setV m.f m.won) m.tie m.p = -1
 ws : m.won.1 < m.f.sets ∧ m.won.2 < m.f.sets
 p0 : 0 ≤ m.p.1 ∧ 0 ≤ m.p.2
 sv : m.server = servesV m.f m.first m.ties (m.p.1 + m.p.2)
def refOf (m : MS) : RS := ⟨m.st, m.g, m.p, 0, m.ends, m.balls, m.winner, m.first, m.gs, freshV m.f m.ties⟩

theorem set_to (f : Fmt) (hf : f.Ok) (won : Pr) : 1 ≤ (setV f won).2 ∧ -1 ≤ (setV f won).1 := by
 have h1 := hf.o0
 have h2 := hf.l0
 have h3 := hf.t
 have h4 := hf.lt
 have h5 := hf.g0
 unfold setV
 cases decide (won.1 = f.sets - 1) && decide (won.2 = f.sets - 1) <;> simp only [cond_true, cond_false] <;> omega
theorem game_00 {f : Fmt} (hf : f.Ok) (won : Pr) (t : Bool) : gameV f (setV f won) t (0, 0) = -1 := by
 have := set_to f hf won
 unfold gameV
 cases t <;> cases f.noAd <;> simp only [cond_true, cond_false] <;> rw [leads_n] <;> simp only <;> omega
theorem tied_eq {f : Fmt} {st : List Pr} {won g : Pr} (hw : won = wonV st) (hg : 0 ≤ g.1) : tiedV f st g = brksV (setV f won) g := by
 unfold tiedV brksV
 rw [hw]
 by_cases h : g.1 = (setV f (wonV st)).1
 ·
  have : 0 ≤ (setV f (wonV st)).1 := by omega
  simp [h, this]
 ·
  simp [h]

structure MS.Pre (m : MS) : Prop where
 w : m.winner = -1
 won : m.won = wonV m.st
 tl : m.ties.length = m.gs.length
 te : ∀ (i : Nat) g, m.gs[i]? = some g → m.ties[i]? = some g.tie
 g0 : 0 ≤ m.g.1 ∧ 0 ≤ m.g.2
theorem fresh_eq {m : MS} (h : m.Pre) : rFresh m.f (refOf m) = freshV m.f (tiesV m) := by
 have hl : ((tiesV m).length : Int) - 1 = (m.gs.length : Int) := by simp [tiesV, h.tl]
 have h1 : tieI (tiesV m) ((tiesV m).length - 1) = tiedV m.f m.st m.g := by rw [tied_eq h.won h.g0.1]; exact tieI_app
 unfold rFresh freshV
 rw [h1, hl]
 show (dueV m.f m.gs.length && !tiedV m.f m.st m.g || decide (2 ≤ (m.gs.length : Int)) && dueV m.f ((m.gs.length : Int) - 2) && gsTie m.gs ((m.gs.length : Int) - 2)) = _
 rw [Bool.and_comm (dueV m.f m.gs.length)]
 congr 1
 by_cases h2 : 2 ≤ (m.gs.length : Int)
 ·
  obtain ⟨g, hg⟩ : ∃ g, m.gs[m.gs.length - 2]? = some g := ⟨_, List.getElem?_eq_getElem (by omega)⟩
  have e : (m.gs.length : Int) - 2 = ((m.gs.length - 2 : Nat) : Int) := by omega
  have hi : tieI (tiesV m) ((m.gs.length : Int) - 2) = g.tie := by
   rw [e]
   refine tieI_at ?_
   rw [tiesV, List.getElem?_append_left (by rw [h.tl]; omega)]
   exact h.te _ _ hg
  have hi2 : gsTie m.gs ((m.gs.length : Int) - 2) = g.tie := gs_tie (by rw [e, Int.toNat_natCast]; exact hg)
  rw [hi, hi2, Bool.and_assoc, Bool.and_comm (dueV _ _), ← Bool.and_assoc]
 ·
  simp [h2]
theorem begin_eq {m : MS} (h : m.Pre) (fr : Bool) : rBegin m.f { refOf m with fresh := fr } = refOf (nextV m) := by
 have hf : rFresh m.f { refOf m with fresh := fr } = freshV m.f (tiesV m) := fresh_eq h
 have hw : decide (0 ≤ m.winner) = false := by rw [h.w]; rfl
 unfold rBegin nextV
 rw [hf, hw]
 rfl
theorem next_inv {m : MS} (hf : m.f.Ok) (hp : m.Pre) (hld : leadsV m.g m.f.games 2 = -1) (hws : m.won.1 < m.f.sets ∧ m.won.2 < m.f.sets) (hp0 : m.p = (0, 0)) : (nextV m).Inv := by
 have hw : decide (0 ≤ m.winner) = false := by rw [hp.w]; rfl
 have e : nextV m = { m with ties := tiesV m, balls := bif freshV m.f (tiesV m) then m.balls + 1 else m.balls, server := servesV m.f m.first (tiesV m) 0 } := by rw [nextV, hw]; rfl
 rw [e]
 refine ⟨hp.w, hp.won, by simp [tiesV, hp.tl], fun i g hg => ?_, tieI_app, hp.g0, hld, fun _ _ => ?_, ?_, hws, ?_, ?_⟩
 ·
  have hi : i < m.gs.length := (List.getElem?_eq_some_iff.1 hg).1
  show (tiesV m)[i]? = _
  rw [tiesV, List.getElem?_append_left (by rw [hp.tl]; exact hi)]
  exact hp.te i g hg
 ·
  dsimp only; rw [hp0]; simp
 ·
  dsimp only; rw [hp0]; exact game_00 hf _ _
 ·
  dsimp only; rw [hp0]; simp
 ·
  dsimp only; rw [hp0]; rfl

structure MS.Done (m : MS) : Prop where
 w : m.winner = 0 ∨ m.winner = 1
 sv : m.server = -1
def gameOver (m : MS) (side : Int) : MS := { m with gs := m.gs ++ [gameG m side], p := (0, 0), g := addV m.g side, ends := bif decide (((addV m.g side).1 + (addV m.g side).2) % 2 = 1) then m.ends + 1 else m.ends }
def setOver (m : MS) (side : Int) : MS := { m with gs := m.gs ++ [gameG m side], p := (0, 0), st := m.st ++ [addV m.g side], g := (0, 0), won := addV m.won side, ends := bif decide (((addV m.g side).1 + (addV m.g side).2) % 2 = 1) then m.ends + 1 else m.ends }
def matchOver (m : MS) (side : Int) : MS := { m with gs := m.gs ++ [gameG m side], p := (0, 0), st := m.st ++ [addV m.g side], g := (0, 0), won := addV m.won side, winner := side, server := -1 }
inductive Stp (m : MS) (side : Int) : MS → Prop
 | no (hw : m.w side = -1) (hi : (pointN m side).Inv) : Stp m side (pointN m side)
 | game (hw : m.w side = side) (he : setEnds m side = false) (hp : (gameOver m side).Pre) (hi : (nextV (gameOver m side)).Inv) : Stp m side (nextV (gameOver m side))
 | set (hw : m.w side = side) (he : setEnds m side = true) (hl : (addV m.g side).2 < (addV m.g side).1 ↔ side = 0) (ho : max (addV m.won side).1 (addV m.won side).2 < m.f.sets) (hp : (setOver m side).Pre) (hi : (nextV (setOver m side)).Inv) : Stp m side (nextV (setOver m side))
 | over (hw : m.w side = side) (he : setEnds m side = true) (hl : (addV m.g side).2 < (addV m.g side).1 ↔ side = 0) (ho : max (addV m.won side).1 (addV m.won side).2 = m.f.sets) : Stp m side (matchOver m side)

theorem wside_eq {p : Pr} {side : Int} (hs : side = 0 ∨ side = 1) (h : p.2 < p.1 ↔ side = 0) : wside p = side := by
 unfold wside
 by_cases h0 : p.2 < p.1
 ·
  rw [decide_eq_true h0]; have := h.1 h0; simp [this]
 ·
  rw [decide_eq_false h0]
  have : side ≠ 0 := fun e => h0 (h.2 e)
  simp only [cond_false]; omega
theorem set_lead {m : MS} (h : m.Inv) {side : Int} (hs : side = 0 ∨ side = 1) (he : setEnds m side = true) : (addV m.g side).2 < (addV m.g side).1 ↔ side = 0 := by
 unfold setEnds at he
 rw [Bool.or_eq_true, decide_eq_true_eq] at he
 rcases he with ht | hl
 ·
  have hb := h.ta
  rw [ht] at hb
  have := hb.symm
  simp only [brksV, Bool.and_eq_true, decide_eq_true_eq] at this
  rcases hs with rfl | rfl
  ·
   rw [add_0]; dsimp only; omega
  ·
   rw [add_1]; dsimp only; omega
 ·
  rcases leads_add (b := 2) (by omega) hs h.ld with h1 | h1
  ·
   omega
  ·
   rcases hs with rfl | rfl
   ·
    rw [leads_0] at h1; rw [add_0] at h1 ⊢; dsimp only at h1 ⊢; omega
   ·
    rw [leads_1 (by omega)] at h1; rw [add_1] at h1 ⊢; dsimp only at h1 ⊢; omega

theorem point_step {m : MS} (hf : m.f.Ok) (h : m.Inv) {side : Int} (hs : side = 0 ∨ side = 1) : Stp m side (pointV m side) := by
 have h01 : 0 ≤ (addV m.g side).1 ∧ 0 ≤ (addV m.g side).2 := by
  have := h.g0
  unfold addV; cases decide (side = 0) <;> simp only [cond_true, cond_false] <;> omega
 have tie' : ∀ (i : Nat) g, (m.gs ++ [gameG m side])[i]? = some g → m.ties[i]? = some g.tie := fun i g hg => by
  by_cases hi : i < m.gs.length
  ·
   rw [List.getElem?_append_left hi] at hg; exact h.te i g hg
  ·
   have hl : i < (m.gs ++ [gameG m side]).length := (List.getElem?_eq_some_iff.1 hg).1
   obtain rfl : i = m.gs.length := by simp at hl; omega
   simp at hg
   subst hg
   have hlt : m.gs.length < m.ties.length := by rw [h.tl]; omega
   show m.ties[m.gs.length]? = some m.tie
   rw [List.getElem?_eq_getElem hlt]
   have e : m.tie = m.ties.getD m.gs.length false := by
    rw [MS.tie, tieI]
    congr 1
    have := h.tl
    omega
   rw [e, List.getD_eq_getElem?_getD, List.getElem?_eq_getElem hlt]
   rfl
 have htl : m.ties.length = (m.gs ++ [gameG m side]).length := by rw [h.tl]; simp
 rcases game_add (f := m.f) (s := setV m.f m.won) (t := m.tie) hs h.go with hw | hw
 ·
  have e : pointV m side = pointN m side := by
   have : decide (m.w side < 0) = true := by rw [MS.w, hw]; rfl
   rw [pointV, this]; rfl
  rw [e]
  refine .no hw ⟨h.w, h.won, h.tl, h.te, h.ta, h.g0, h.ld, fun hn ht => ?_, hw, h.ws, ?_, rfl⟩
  ·
   have ht' : m.tie = false := ht
   have hp := h.ad hn ht'
   have hg : gameV m.f (setV m.f m.won) m.tie (addV m.p side) = -1 := hw
   unfold gameV at hg
   rw [ht', show m.f.noAd = true from hn] at hg
   simp only [cond_true, cond_false] at hg
   rw [leads_n] at hg
   show (addV m.p side).1 < 4 ∧ (addV m.p side).2 < 4
   rcases hs with rfl | rfl
   ·
    rw [add_0] at hg ⊢; simp only at hg ⊢; omega
   ·
    rw [add_1] at hg ⊢; simp only at hg ⊢; omega
  ·
   show 0 ≤ (addV m.p side).1 ∧ 0 ≤ (addV m.p side).2
   have := h.p0
   rcases hs with rfl | rfl
   ·
    rw [add_0]; simp only; omega
   ·
    rw [add_1]; simp only; omega
 ·
  have hws : m.w side = side := hw
  have hs0 : 0 ≤ side := by omega
  have hlt : decide (m.w side < 0) = false := by rw [hws]; simp; omega
  cases he : setEnds m side
  ·
   have hG : pointG m side = { m with gs := m.gs ++ [gameG m side], p := (0, 0), g := addV m.g side } := by rw [pointG, hws, he]; rfl
   have hE : pointE m side = gameOver m side := by
    rw [pointE, hG, hws]
    have : decide (m.winner < 0) = true := by rw [h.w]; rfl
    simp only [this, Bool.and_true]
    rfl
   rw [pointV, hlt, cond_false, hE]
   have hld : leadsV (addV m.g side) m.f.games 2 = -1 := by
    have := he
    unfold setEnds at this
    rw [Bool.or_eq_false_iff, decide_eq_false_iff_not] at this
    rcases leads_add (b := 2) (by omega) hs h.ld with h1 | h1
    ·
     exact h1
    ·
     omega
   have hp : (gameOver m side).Pre := ⟨h.w, h.won, htl, tie', h01⟩
   exact .game hws he hp (next_inv hf hp hld h.ws rfl)
  ·
   have hl := set_lead h hs he
   have hwn : wonV (m.st ++ [addV m.g side]) = addV m.won side := by rw [wonV_app, wside_eq hs hl, h.won]
   have hle : (addV m.won side).1 ≤ m.f.sets ∧ (addV m.won side).2 ≤ m.f.sets := by
    have := h.ws
    rcases hs with rfl | rfl
    ·
     rw [add_0]; simp only; omega
    ·
     rw [add_1]; simp only; omega
   by_cases ho : max (addV m.won side).1 (addV m.won side).2 = m.f.sets
   ·
    have hG : pointG m side = { m with gs := m.gs ++ [gameG m side], p := (0, 0), st := m.st ++ [addV m.g side], g := (0, 0), won := addV m.won side, winner := side } := by rw [pointG, hws, he]; simp only [cond_true, decide_eq_true ho]
    have hE : pointE m side = { m with gs := m.gs ++ [gameG m side], p := (0, 0), st := m.st ++ [addV m.g side], g := (0, 0), won := addV m.won side, winner := side } := by
     rw [pointE, hG]
     have : decide (side < 0) = false := by simp; omega
     simp only [this, Bool.and_false, cond_false]
    have e : pointV m side = matchOver m side := by
     rw [pointV, hlt, cond_false, hE, nextV]
     simp only [decide_eq_true hs0, cond_true]
     rfl
    rw [e]
    exact .over hws he hl ho
   ·
    have hG : pointG m side = { m with gs := m.gs ++ [gameG m side], p := (0, 0), st := m.st ++ [addV m.g side], g := (0, 0), won := addV m.won side } := by rw [pointG, hws, he]; simp only [cond_true, decide_eq_false ho, cond_false]
    have hE : pointE m side = setOver m side := by
     rw [pointE, hG, hws]
     have : decide (m.winner < 0) = true := by rw [h.w]; rfl
     simp only [this, Bool.and_true]
     rfl
    rw [pointV, hlt, cond_false, hE]
    have hp : (setOver m side).Pre := ⟨h.w, hwn.symm, htl, tie', by simp [setOver]⟩
    refine .set hws he hl (by omega) hp (next_inv hf hp ?_ ?_ rfl)
    ·
     have := hf.g0
     show leadsV (0, 0) m.f.games 2 = -1
     rw [leads_n]; simp only; omega
    ·
     show (addV m.won side).1 < m.f.sets ∧ (addV m.won side).2 < m.f.sets
     omega

theorem rW_eq {m : MS} (h : m.Inv) {side : Int} (hs : side = 0 ∨ side = 1) : rW m.f (refOf m) side = m.w side := by
 have ht : tiedV m.f m.st m.g = m.tie := by rw [tied_eq h.won h.g0.1, h.ta]
 show (bif tiedV m.f m.st m.g then leadsV (addV m.p side) (setV m.f (wonV m.st)).2 2 else gameR m.f (addV m.p side)) = gameV m.f (setV m.f m.won) m.tie (addV m.p side)
 rw [ht, ← h.won]
 unfold gameV gameR
 cases htt : m.tie
 ·
  simp only [cond_false]
  cases hn : m.f.noAd
  ·
   rfl
  ·
   simp only [cond_true]
   have hp := h.ad hn htt
   have hp0 := h.p0
   unfold leadsV
   rcases hs with rfl | rfl
   ·
    rw [add_0]
    simp only
    by_cases h4 : 4 ≤ m.p.1 + 1
    ·
     have : (1 : Int) ≤ m.p.1 + 1 - m.p.2 := by omega
     simp [h4, this]
    ·
     have h5 : ¬ 4 ≤ m.p.2 := by omega
     simp [h4, h5]
   ·
    rw [add_1]
    simp only
    have h4 : ¬ 4 ≤ m.p.1 := by omega
    by_cases h5 : 4 ≤ m.p.2 + 1
    ·
     have : (1 : Int) ≤ m.p.2 + 1 - m.p.1 := by omega
     simp [h4, h5, this]
    ·
     simp [h4, h5]
 ·
  rfl
theorem rGm_eq {m : MS} (h : m.Inv) (hfs : 0 ≤ m.first ∧ m.first ≤ 1) {side : Int} (hs : side = 0 ∨ side = 1) : rGm m.f (refOf m) side = gameG m side := by
 have ht : tiedV m.f m.st m.g = m.tie := by rw [tied_eq h.won h.g0.1, h.ta]
 unfold rGm gameG
 rw [rW_eq h hs]
 show (⟨m.st.length, tiedV m.f m.st m.g, servR m.f m.first m.gs.length (tiedV m.f m.st m.g) 0, m.w side, addV m.p side, freshV m.f m.ties⟩ : Gm) = _
 rw [ht, serv_eq (tie := m.tie) hfs h.tl rfl (by omega)]
theorem sim_point {m : MS} (hf : m.f.Ok) (hfs : 0 ≤ m.first ∧ m.first ≤ 1) (h : m.Inv) {side : Int} (hs : side = 0 ∨ side = 1) : rPoint m.f (refOf m) side = refOf (pointV m side) := by
 have ht : tiedV m.f m.st m.g = m.tie := by rw [tied_eq h.won h.g0.1, h.ta]
 have hW := rW_eq h hs
 have hgm := rGm_eq h hfs hs
 have hset : rSet m.f (refOf m) side = setEnds m (m.w side) := by
  unfold rSet setEnds
  rw [hW]
  show (tiedV m.f m.st m.g || _) = _
  rw [ht]; rfl
 have hG : rG m.f (refOf m) side = { refOf m with p := (0, 0), gs := m.gs ++ [gameG m side], g := addV m.g (m.w side) } := by
  unfold rG; rw [hgm, hW]; rfl
 have hodd : rOdd m.f (refOf m) side = decide (((addV m.g (m.w side)).1 + (addV m.g (m.w side)).2) % 2 = 1) := by unfold rOdd; rw [hW]; rfl
 unfold rPoint
 rw [hW]
 have hst := point_step hf h hs
 generalize pointV m side = m' at hst
 cases hst with
 | no hw hi =>
  rw [show decide (m.w side < 0) = true by rw [hw]; rfl, cond_true]
  unfold rN rEnds
  rw [hW]
  show ({ refOf m with p := addV m.p side, ends := bif tiedV m.f m.st m.g && (decide (m.w side < 0) && decide (((addV m.p side).1 + (addV m.p side).2) % 6 = 0)) then m.ends + 1 else m.ends } : RS) = _
  rw [ht, show decide (m.w side < 0) = true by rw [hw]; rfl, Bool.true_and]
  rfl
 | game hw he hp hi =>
  rw [show decide (m.w side < 0) = false by rw [hw]; simp; omega, cond_false]
  rw [hw] at hset hG hodd
  have hS : rS m.f (refOf m) side = rG m.f (refOf m) side := by unfold rS; rw [hset, he]; rfl
  have hO : rOver m.f (refOf m) side = false := by unfold rOver; rw [hset, he]; rfl
  rw [hO, cond_false, hS, hG, hodd]
  exact begin_eq hp (freshV m.f m.ties)
 | set hw he hl ho hp hi =>
  rw [show decide (m.w side < 0) = false by rw [hw]; simp; omega, cond_false]
  rw [hw] at hset hG hodd
  have hwn : wonV (m.st ++ [addV m.g side]) = addV m.won side := by rw [wonV_app, wside_eq hs hl, h.won]
  have hS : rS m.f (refOf m) side = { rG m.f (refOf m) side with st := m.st ++ [addV m.g side], g := (0, 0) } := by unfold rS; rw [hset, he, hW, hw]; rfl
  have hO : rOver m.f (refOf m) side = false := by
   unfold rOver; rw [hset, he, hW, hw]
   show (true && (decide ((wonV (m.st ++ [addV m.g side])).1 = m.f.sets) || decide ((wonV (m.st ++ [addV m.g side])).2 = m.f.sets))) = false
   rw [hwn]
   simp only [Bool.true_and, Bool.or_eq_false_iff, decide_eq_false_iff_not]
   omega
  rw [hO, cond_false, hS, hG, hodd]
  exact begin_eq hp (freshV m.f m.ties)
 | over hw he hl ho =>
  rw [show decide (m.w side < 0) = false by rw [hw]; simp; omega, cond_false]
  rw [hw] at hset hG hodd
  have hwn : wonV (m.st ++ [addV m.g side]) = addV m.won side := by rw [wonV_app, wside_eq hs hl, h.won]
  have hS : rS m.f (refOf m) side = { rG m.f (refOf m) side with st := m.st ++ [addV m.g side], g := (0, 0) } := by unfold rS; rw [hset, he, hW, hw]; rfl
  have hO : rOver m.f (refOf m) side = true := by
   unfold rOver; rw [hset, he, hW, hw]
   show (true && (decide ((wonV (m.st ++ [addV m.g side])).1 = m.f.sets) || decide ((wonV (m.st ++ [addV m.g side])).2 = m.f.sets))) = true
   rw [hwn]
   simp only [Bool.true_and, Bool.or_eq_true, decide_eq_true_eq]
   omega
  rw [hO, cond_true, hS, hG, hw]
  rfl

theorem begin_pre (f : Fmt) (first : Int) : (begin0 f first).Pre := ⟨rfl, rfl, rfl, fun i g h => by simp [begin0] at h, by simp [begin0]⟩
theorem begin_inv {f : Fmt} (hf : f.Ok) (first : Int) : (beginV f first).Inv :=
 next_inv (m := begin0 f first) hf (begin_pre f first) (by have := hf.g0; rw [leads_n]; simp only [begin0]; omega) (by have := hf.s0; simp only [begin0]; omega) rfl
theorem stp_f {m m' : MS} {side : Int} (h : Stp m side m') : m'.f = m.f ∧ m'.first = m.first := by
 have hn : ∀ m0 : MS, (nextV m0).f = m0.f ∧ (nextV m0).first = m0.first := fun m0 => by unfold nextV; cases decide (0 ≤ m0.winner) <;> exact ⟨rfl, rfl⟩
 cases h with
 | no => exact ⟨rfl, rfl⟩
 | game => exact hn _
 | set => exact hn _
 | over => exact ⟨rfl, rfl⟩
theorem stp_inv {m m' : MS} {side : Int} (hs : side = 0 ∨ side = 1) (h : Stp m side m') : m'.Inv ∨ m'.Done := by
 cases h with
 | no _ hi => exact .inl hi
 | game _ _ _ hi => exact .inl hi
 | set _ _ _ _ _ hi => exact .inl hi
 | over => exact .inr ⟨hs, rfl⟩
theorem playTo_inv {f : Fmt} {first : Int} {xs : List Int} (hf : f.Ok) : ∀ {k : Nat} {m : MS}, playTo f first xs k = some m → m.f = f ∧ m.first = first ∧ (m.Inv ∨ m.Done)
 | 0, m, h => by
  simp only [playTo, Option.some.injEq] at h
  subst h
  exact ⟨rfl, rfl, .inl (begin_inv hf first)⟩
 | k + 1, m, h => by
  rw [playTo] at h
  cases h1 : playTo f first xs k with
  | none => rw [h1] at h; cases h
  | some m0 =>
   cases h2 : xs[k]? with
   | none => rw [h1, h2] at h; cases h
   | some s =>
    rw [h1, h2] at h
    simp only at h
    obtain ⟨e1, e2, hi⟩ := playTo_inv hf h1
    cases hb : sideBad s || decide (0 ≤ m0.winner)
    ·
     rw [hb] at h
     simp only [cond_false, Option.some.injEq] at h
     subst h
     rw [Bool.or_eq_false_iff] at hb
     have hs := side_ok hb.1
     rcases hi with hi | hd
     ·
      have hst := point_step (e1 ▸ hf) hi hs
      have := stp_f hst
      exact ⟨this.1.trans e1, this.2.trans e2, stp_inv hs hst⟩
     ·
      have := hb.2
      rw [decide_eq_false_iff_not] at this
      have := hd.w
      omega
    ·
     rw [hb] at h; cases h
end Go.Proofs.YthkliiifllhacaaGreat

namespace Go.Proofs.YthkliiifllhacaaGreat
open Go Go.RowKit

theorem C_ref1_Next (f : Fmt) (m : MS) (hmf : m.f = f) (sA : Option Addr) (sc : Nat) (gA : Option Addr) (gc : Nat) (hf : f.Ok) (hfs : 0 ≤ m.first ∧ m.first ≤ 1) (hm : m.Inv ∨ m.Done) {K : Int} (hB : m.Bd K) (w : World) (h : Rd w sA 2 m.st.length (encP m.st)) :
  C0 Tryz.prog 97 [f.val, (refOf m).val sA sc gA gc] w (.int .i64 m.server) := by
 subst hmf
 obtain ⟨-, -, hk, -, -, hg, hp, -, -, -, hsl, hgl⟩ := hB
 refine ⟨en Tryz.func97 Tryz.ntmps97 ((St.init w).share (e := .ro sA 2 m.st.length (encP m.st)) h rfl rfl rfl) (h := fun F => ?_)⟩
 refine sr ?_
 refine bxA (h := fun b0 => ?_)
 refine bxA (h := fun b1 => ?_)
 refine ww ?_
 refine nq ?_
 refine sq ?_
 refine sr ?_
 iterate 4 refine ww ?_
 refine nq ?_
 refine czz (fun h0 => ?_) fun h0 => ?_
 ·
  have hsv : m.server = -1 := by
   rcases hm with hi | hd
   ·
    have h1 := hi.w
    have h2 : 0 ≤ m.winner := of_decide_eq_true h0
    omega
   ·
    exact hd.sv
  refine sr ?_
  refine ww ?_
  refine nq ?_
  refine rtn ?_
  refine q_then_ret ?_
  refine q_ret (hR := ?_)
  rw [hsv]
  exact fun w hS => ⟨rfl, hS.sub slz_⟩
 ·
  have hi : m.Inv := by
   rcases hm with hi | hd
   ·
    exact hi
   ·
    have h1 := hd.w
    have h2 : ¬ 0 ≤ m.winner := of_decide_eq_false h0
    omega
  have hsv : m.server = servR m.f m.first m.gs.length (tiedV m.f m.st m.g) (m.p.1 + m.p.2) := by
   have hp0 := hi.p0
   rw [hi.sv, tied_eq hi.won hi.g0.1, ← hi.ta, serv_eq (tie := m.tie) hfs hi.tl rfl (by omega)]
  have hgl' : (refOf m).gs.length = m.gs.length := rfl
  refine skp ?_
  refine q_seq ?_
  refine sr ?_
  iterate 4 refine ww ?_
  refine cl0 (hc := fun w hS => C_ref1_tied m.f ⟨m.st, m.g, m.p⟩ sA m.st.length sc hf w (hS.get rdz_) (by omega)) (h := ?_)
  iterate 5 refine ww ?_
  refine nr ?_
  iterate 17 refine ww ?_
  refine wy (addI (a := m.p.1) (b := m.p.2) (hb := by omega)) ?_
  refine cl0 (hc := fun w hS => C_ref1_Server m.f m.first m.gs.length (tiedV m.f m.st m.g) (m.p.1 + m.p.2) hfs (by omega) (by omega) w) (h := ?_)
  refine ww ?_
  refine nq ?_
  refine rtn ?_
  refine q_ret (hR := ?_)
  rw [hsv]
  exact fun w hS => ⟨rfl, hS.sub slz_⟩

theorem C_ref1_Begin (f : Fmt) (first : Int) (hf : f.Ok) (w : World) : C0 Tryz.prog 95 [f.val, .int .i64 first] w ((refOf (beginV f first)).val none 0 none 0) := by
 have e : rBegin f ⟨[], (0, 0), (0, 0), 0, 0, 0, -1, first, [], false⟩ = refOf (beginV f first) := begin_eq (begin_pre f first) false
 refine ⟨en Tryz.func95 Tryz.ntmps95 (St.init w) (h := fun F => ?_)⟩
 refine sr ?_
 refine bxA (h := fun b0 => ?_)
 refine al (h := fun b1 => ?_)
 refine nr ?_
 iterate 4 refine ww ?_
 refine cl0 (hc := fun w hS => C_ref1_begin f ⟨[], (0, 0), (0, 0), 0, 0, 0, -1, first, [], false⟩ none 0 none 0 0 0 hf w (Rd.nil ..) (Rd.nil ..) (by omega) (by omega) (by simp)) (h := ?_)
 rw [e]
 first | refine stA (h := ?_) | refine stEA (h := ?_)
 refine nq ?_
 refine rtn ?_
 refine q_ret (hR := ?_)
 exact fun w hS => ⟨rfl, hS.sub slz_⟩

theorem refBd {m : MS} {K : Int} (h : m.Bd K) (hK : K ≤ 990) : (refOf m).Bd K :=
 ⟨⟨h.k.1, hK⟩, by have := h.fst; show 0 ≤ m.first ∧ m.first ≤ 1; omega, h.g, h.p, h.e, h.b, h.s, h.gs⟩
theorem T_ref1_Point' (f : Fmt) (m : MS) (hmf : m.f = f) (side K : Int) (sA : Option Addr) (sc : Nat) (gA : Option Addr) (gc : Nat) (hf : f.Ok) (hB : m.Bd K) (hK : K ≤ 990) (hi : m.Inv) (hs : side = 0 ∨ side = 1) :
  Tr Tryz.prog 96 [f.val, (refOf m).val sA sc gA gc, .int .i64 side] [.own sA sc 73 2 (refOf m).st.length (encP (refOf m).st), .own gA gc 229 7 (refOf m).gs.length (encG (refOf m).gs)] (fun _ : RA => True) (fun x => (refOf (pointV m side)).val x.sA x.sc x.gA x.gc)
   (fun x => [.own x.sA x.sc 73 2 (refOf (pointV m side)).st.length (encP (refOf (pointV m side)).st), .own x.gA x.gc 229 7 (refOf (pointV m side)).gs.length (encG (refOf (pointV m side)).gs)]) := by
 subst hmf
 have h := T_ref1_Point m.f (refOf m) side K sA sc gA gc hf (refBd hB hK)
 rw [sim_point hf (by have := hB.fst; omega) hi hs] at h
 exact h

def runO (o : Option MS) : RS := match o with
 | some m => { refOf m with server := m.server }
 | none => ⟨[], (0, 0), (0, 0), 0, 0, 0, 0, 0, [], false⟩
theorem side_wi (s : Int) : (!wi s 0 1) = sideBad s := by
 unfold sideBad wi
 by_cases h0 : s = 0
 ·
  subst h0; rfl
 ·
  by_cases h1 : s = 1
  ·
   subst h1; rfl
  ·
   have : ¬ (0 ≤ s ∧ s ≤ 1) := by omega
   simp only [decide_eq_false h0, decide_eq_false h1, Bool.not_false, Bool.and_self, Bool.not_eq_true', Bool.and_eq_false_iff, decide_eq_false_iff_not]
   omega
structure RZ where
 (k : Nat) (m : MS) (a : RA)

set_option maxRecDepth 100000 in
set_option maxHeartbeats 1000000 in
theorem C_ref1_Run (f : Fmt) (first : Int) (xs : List Int) (A : Option Addr) (n c : Nat) (w : World) (h : Rd w A 1 n (encI xs)) (hn : n ≤ 9223372036854775807) :
  CR Tryz.prog 51 [f.val, .int .i64 first, .slice A n c] w (fun _ : RA => True) (fun x => .tuple #[(runO (playO f first xs)).val x.sA x.sc x.gA x.gc, .int .i64 (playE f first xs)])
   (fun x => [.own x.sA x.sc 73 2 (runO (playO f first xs)).st.length (encP (runO (playO f first xs)).st), .own x.gA x.gc 229 7 (runO (playO f first xs)).gs.length (encG (runO (playO f first xs)).gs)]) := by
 have hlen : xs.length = n := by have := h.len; rwa [encI_len] at this
 refine ⟨en Tryz.func51 Tryz.ntmps51 ((St.init w).share (e := .ro A 1 n (encI xs)) h rfl rfl rfl) (h := fun F => ?_)⟩
 refine sr ?_
 refine bxA (h := fun b0 => ?_)
 refine al (h := fun b1 => ?_)
 refine ww ?_
 refine nq ?_
 refine sq ?_
 refine sr ?_
 refine ww ?_
 refine cl0 (hc := fun w hS => C_ref1_Check _ w) (h := ?_)
 refine ww ?_
 refine nq ?_
 refine czz (fun h0 => ?_) fun h0 => ?_
 ·
  have hc1 : (!decide (chkF f = 0)) = true := h0
  have hE : playE f first xs = 10 := by
   have : chkF f = 10 := by
    unfold chkF at hc1 ⊢
    cases hb : fmtOk f
    ·
     rfl
    ·
     rw [hb] at hc1; cases hc1
   simp only [playE, preE, hc1, cond_true]; exact this
  have hO : playO f first xs = none := by
   have : (!decide (preE f first xs.length = 0)) = true := by simp only [preE, hc1, cond_true]
   rw [playO, this]; rfl
  refine sq ?_
  refine WC.nilOwn 73 2 (h := ?_)
  refine WC.nilOwn 229 7 (h := ?_)
  refine rg ?_
  refine ww ?_
  first | refine stA (h := ?_) | refine stEA (h := ?_)
  refine ww ?_
  refine nq ?_
  refine rtn ?_
  refine q_then_ret ?_
  refine q_ret (hR := ?_)
  rw [hE, hO]
  exact fun w hS => ⟨⟨none, none, 0, 0⟩, trivial, rfl, hS.sub slz_⟩
 ·
  have hf := chkF_ok h0
  have hc0 : (!decide (chkF f = 0)) = false := h0
  refine skp ?_
  refine q_seq ?_
  refine sq ?_
  refine sr ?_
  refine ww ?_
  refine cl0 (hc := fun w hS => C_ref1_within ..) (h := ?_)
  refine ww ?_
  refine nq ?_
  refine czz (fun h1 => ?_) fun h1 => ?_
  ·
   have hs1 : sideBad first = true := by rw [← side_wi]; exact h1
   have hE : playE f first xs = 1 := by
    simp only [playE, preE, hc0, hs1, cond_true, cond_false]; rfl
   have hO : playO f first xs = none := by
    simp only [playO, preE, hc0, hs1, cond_true, cond_false]; rfl
   refine sq ?_
   refine WC.nilOwn 73 2 (h := ?_)
   refine WC.nilOwn 229 7 (h := ?_)
   refine rg ?_
   refine ww ?_
   first | refine stA (h := ?_) | refine stEA (h := ?_)
   refine ww ?_
   refine nq ?_
   refine rtn ?_
   refine q_then_ret ?_
   refine q_ret (hR := ?_)
   rw [hE, hO]
   exact fun w hS => ⟨⟨none, none, 0, 0⟩, trivial, rfl, hS.sub slz_⟩
  ·
   have hs0 : sideBad first = false := by rw [← side_wi]; exact h1
   have hfs := side_ok (s := first) hs0
   refine skp ?_
   refine q_seq ?_
   refine sq ?_
   refine sr ?_
   iterate 3 refine ww ?_
   refine nq ?_
   refine czz (fun h2 => ?_) fun h2 => ?_
   ·
    have h' : decide ((600 : Int) < xs.length) = true := by rw [hlen]; exact h2
    have hE : playE f first xs = 2 := by
     simp only [playE, preE, hc0, hs0, h', cond_true, cond_false]; rfl
    have hO : playO f first xs = none := by
     simp only [playO, preE, hc0, hs0, h', cond_true, cond_false]; rfl
    refine sq ?_
    refine WC.nilOwn 73 2 (h := ?_)
    refine WC.nilOwn 229 7 (h := ?_)
    refine rg ?_
    refine ww ?_
    first | refine stA (h := ?_) | refine stEA (h := ?_)
    refine ww ?_
    refine nq ?_
    refine rtn ?_
    refine q_then_ret ?_
    refine q_ret (hR := ?_)
    rw [hE, hO]
    exact fun w hS => ⟨⟨none, none, 0, 0⟩, trivial, rfl, hS.sub slz_⟩
   ·
    have hn6 : n ≤ 600 := by simp only [decide_eq_false_iff_not] at h2; omega
    have hp0 : preE f first xs.length = 0 := by
     have h' : decide ((600 : Int) < xs.length) = false := by rw [hlen]; exact h2
     simp only [preE, hc0, hs0, h', cond_false]
    refine skp ?_
    refine q_seq ?_
    refine sq ?_
    refine WC.nilOwn 73 2 (h := ?_)
    refine WC.nilOwn 229 7 (h := ?_)
    refine rg ?_
    iterate 2 refine ww ?_
    refine cl0 (hc := fun w hS => C_ref1_Begin _ _ (by assumption) w) (h := ?_)
    refine al (h := fun b2 => ?_)
    first | refine stA (h := ?_) | refine stEA (h := ?_)
    refine nq ?_
    refine sq ?_
    refine sr ?_
    refine ww ?_
    refine nq ?_
    refine bk ?_
    refine lp (X := RZ) (I := fun z => z.k ≤ n ∧ playTo f first xs z.k = some z.m ∧ z.m.Bd z.k) (le := fun z => [(0, f.val), (1, .int .i64 first), (2, .slice A n c), (3, .pointer (some ⟨b0, 0, none⟩)), (6, .pointer (some ⟨b1, 0, none⟩)), (8, .pointer (some ⟨b2, 0, none⟩)), (9, .int .i64 z.k)]) (Le := fun z => [.blk b0 49 f.cells, .blk b1 126 [.slice none 0 0, .int .i64 0, .int .i64 0, .int .i64 0, .int .i64 0, .int .i64 0, .int .i64 0, .int .i64 0, .int .i64 0, .int .i64 0, .slice none 0 0, .bool false], .blk b2 126 ((refOf z.m).cells z.a.sA z.a.sc z.a.gA z.a.gc), .own z.a.sA z.a.sc 73 2 (refOf z.m).st.length (encP (refOf z.m).st), .own z.a.gA z.a.gc 229 7 (refOf z.m).gs.length (encG (refOf z.m).gs), .ro A 1 n (encI xs)]) (μ := fun z => n - z.k) ⟨0, beginV f first, ⟨none, none, 0, 0⟩⟩ ⟨Nat.zero_le _, rfl, beginV_bd hf hfs⟩ sbz_ slz_ (fun z hz => ?_)
    obtain ⟨hzk, hzr, hzb⟩ := hz
    obtain ⟨hzf, hz1, hzi⟩ := playTo_inv hf hzr
    refine sq ?_
    refine sr ?_
    iterate 4 refine ww ?_
    refine nq ?_
    refine czz (fun h3 => ?_) fun h3 => ?_
    ·
     have hkn : z.k < n := by simp only [decide_eq_true_eq] at h3; omega
     obtain ⟨s, hs⟩ : ∃ s, xs[z.k]? = some s := ⟨_, List.getElem?_eq_getElem (by omega)⟩
     have hse := encI_at hs
     have hstep := playTo_succ hzr hs
     refine skp ?_
     refine q_seq ?_
     refine sq ?_
     refine bk ?_
     refine sq ?_
     refine sr ?_
     iterate 2 refine ww ?_
     refine wy (ix (hb := by omega)) ?_
     refine wy (ldE (hk := hse)) ?_
     refine cl0 (hc := fun w hS => C_ref1_within ..) (h := ?_)
     iterate 2 refine ww ?_
     apply brOr 5 37 42 (by exact rfl)
     ·
      intro hb4
      iterate 4 refine uw ?_
      refine ww ?_
      exact mg (by repeat (first | exact trivial | refine ⟨rfl, ?_⟩ | refine ⟨by rw [hb4]; rfl, ?_⟩)) slz_
     ·
      intro hb4
      repeat (first | refine uz ?_ | refine kz ?_ | refine wz ?_)
      exact mg (by repeat (first | exact trivial | refine ⟨rfl, ?_⟩ | refine ⟨by rw [hb4]; rfl, ?_⟩)) slz_
     refine nq ?_
     refine czz (fun h5 => ?_) fun h5 => ?_
     ·
      have h' : (sideBad s || decide (0 ≤ z.m.winner)) = true := by rw [← side_wi]; exact h5
      rw [h'] at hstep
      have hpn := playTo_none (k := xs.length) hstep (by omega)
      have hE : playE f first xs = 11 := by rw [playE, hp0, hpn]; rfl
      have hO : playO f first xs = none := by rw [playO, hp0]; exact hpn
      refine sq ?_
      refine WC.nilOwn 73 2 (h := ?_)
      refine WC.nilOwn 229 7 (h := ?_)
      refine rg ?_
      refine ww ?_
      first | refine stA (h := ?_) | refine stEA (h := ?_)
      refine ww ?_
      refine nq ?_
      refine rtn ?_
      refine q_then_ret ?_
      refine q_blk_ret ?_
      iterate 2 refine q_then_ret ?_
      refine q_blk_ret ?_
      refine q_then_ret ?_
      refine q_ret (hR := ?_)
      rw [hE, hO]
      exact fun w hS => ⟨⟨none, none, 0, 0⟩, trivial, rfl, hS.sub slz_⟩
     ·
      have h' : (sideBad s || decide (0 ≤ z.m.winner)) = false := by rw [← side_wi]; exact h5
      have hnx : playTo f first xs (z.k + 1) = some (pointV z.m s) := by rw [hstep, h']; rfl
      have h2' := Bool.or_eq_false_iff.1 h'
      have hsd := side_ok h2'.1
      have hin : z.m.Inv := by
       rcases hzi with hi | hd
       ·
        exact hi
       ·
        have h1 := hd.w
        have h2 := h2'.2
        rw [decide_eq_false_iff_not] at h2
        omega
      refine skp ?_
      refine q_seq ?_
      refine rgD (by kernel_rfl) [(7, .blk b2 126 ((refOf z.m).cells z.a.sA z.a.sc z.a.gA z.a.gc)), (1000000, .blk b0 49 f.cells), (1000000, .ro A 1 n (encI xs))] (by repeat (first | exact HS.nil | (apply HS.keep; (repeat (first | exact At.here | apply At.there))) | (apply HS.ro; (repeat (first | exact Rds.ro | exact Rds.own | apply Rds.there))))) (h := ?_)
      refine tw 0 ?_
      refine tw 1 ?_
      refine tw 2 ?_
      refine tw 3 ?_
      refine tk 4 (hy := ix (hb := by omega)) (h := ?_)
      refine tk 5 (hy := ldE (hk := hse)) (h := ?_)
      refine one 6 (h := ?_)
      refine clT (hc := T_ref1_Point' f z.m hzf s z.k z.a.sA z.a.sc z.a.gA z.a.gc hf hzb (by omega) hin hsd) (h := fun x2 _ => ?_)
      refine nx (h := ?_)
      refine one 7 (h := ?_)
      first | refine stA (h := ?_) | refine stEA (h := ?_)
      refine nx (h := ?_)
      refine dn (h := ?_)
      refine q_blk_norm ?_
      refine q_seq ?_
      refine rg ?_
      iterate 3 refine ww ?_
      refine nl ?_
      refine rn (x := z) ⟨z.k + 1, pointV z.m s, x2⟩ ⟨by dsimp only; omega, hnx, by have := pointV_bd (side := s) hzb (by omega); simpa using this⟩ (by dsimp only; omega) sbz_ slz_
    ·
     have hkn : z.k = n := by simp only [decide_eq_false_iff_not] at h3; omega
     have hO : playO f first xs = some z.m := by rw [playO, hp0, hlen, ← hkn]; exact hzr
     have hE := playE_some hO
     refine et ?_
     iterate 2 refine q_then_exit ?_
     refine q_blk_hit ?_
     refine q_seq ?_
     refine sr ?_
     iterate 2 refine ww ?_
     refine cl0 (hc := fun w hS => C_ref1_Next f z.m hzf z.a.sA z.a.sc z.a.gA z.a.gc hf (by rw [hz1]; omega) hzi hzb w (hS.get rdz_)) (h := ?_)
     iterate 2 refine ww ?_
     first | refine st (h := ?_) | refine stE (h := ?_)
     refine nr ?_
     refine ww ?_
     first | refine stA (h := ?_) | refine stEA (h := ?_)
     refine ww ?_
     refine nq ?_
     refine rtn ?_
     refine q_ret (hR := ?_)
     rw [hE, hO]
     exact fun w hS => ⟨z.a, trivial, rfl, hS.sub slz_⟩

theorem runO_sc (o : Option MS) : (runO o).st = (scO o).st ∧ (runO o).g = (scO o).g ∧ (runO o).p = (scO o).p ∧ (runO o).server = (scO o).server ∧ (runO o).ends = (scO o).ends ∧ (runO o).balls = (scO o).balls ∧ (runO o).winner = (scO o).winner ∧ (runO o).gs = gsO o := by
 cases o <;> exact ⟨rfl, rfl, rfl, rfl, rfl, rfl, rfl, rfl⟩
set_option maxRecDepth 100000 in
theorem C_ref1_Play (f : Fmt) (first : Int) (xs : List Int) (A : Option Addr) (n c : Nat) (w : World) (h : Rd w A 1 n (encI xs)) (hn : n ≤ 9223372036854775807) :
  CR Tryz.prog 22 [f.val, .int .i64 first, .slice A n c] w (fun _ : Option Addr × Nat => True) (fun x => .tuple #[(scO (playO f first xs)).val x.1 x.2, .int .i64 (playE f first xs)]) (fun x => [.own x.1 x.2 73 2 (scO (playO f first xs)).st.length (encP (scO (playO f first xs)).st)]) := by
 obtain ⟨e1, e2, e3, e4, e5, e6, e7, e8⟩ := runO_sc (playO f first xs)
 refine ⟨en Tryz.func22 Tryz.ntmps22 ((St.init w).share (e := .ro A 1 n (encI xs)) h rfl rfl rfl) (h := fun F => ?_)⟩
 refine sr ?_
 refine bxA (h := fun b0 => ?_)
 refine al (h := fun b1 => ?_)
 refine ww ?_
 refine nr ?_
 iterate 3 refine ww ?_
 refine cl (hc := fun w hS => C_ref1_Run _ _ _ _ _ _ w (hS.get rdz_) (by omega)) (h := fun x0 _ => ?_)
 iterate 3 refine ww ?_
 refine al (h := fun b2 => ?_)
 first | refine stA (h := ?_) | refine stEA (h := ?_)
 refine ww ?_
 refine nr ?_
 iterate 3 refine ww ?_
 first | refine stA (h := ?_) | refine stEA (h := ?_)
 refine ww ?_
 refine nq ?_
 refine rtn ?_
 refine q_ret (hR := ?_)
 rw [e1, e2, e3, e4, e5, e6, e7]
 exact fun w hS => ⟨(x0.sA, x0.sc), trivial, rfl, hS.sub slz_⟩
end Go.Proofs.YthkliiifllhacaaGreat

namespace Go.Proofs.YthkliiifllhacaaGreat
open Go Go.RowKit

structure Spot where
 (first : Int) (st : List Pr) (g p : Pr)
theorem Spot.ext' {a b : Spot} (h1 : a.first = b.first) (h2 : a.st = b.st) (h3 : a.g = b.g) (h4 : a.p = b.p) : a = b := by
 cases a; cases b; cases h1; cases h2; cases h3; cases h4; rfl
instance : DecidableEq Spot := fun a b => decidable_of_iff (a.first = b.first ∧ a.st = b.st ∧ a.g = b.g ∧ a.p = b.p) ⟨fun h => Spot.ext' h.1 h.2.1 h.2.2.1 h.2.2.2, fun h => by subst h; exact ⟨rfl, rfl, rfl, rfl⟩⟩
def spotOf (m : MS) : Spot := ⟨m.first, m.st, m.g, m.p⟩
def ldS (p : Pr) (side l b : Int) : Bool := bif decide (side = 1) then decide (l ≤ p.2) && decide (b ≤ p.2 - p.1) else decide (l ≤ p.1) && decide (b ≤ p.1 - p.2)
def topS (s : Spot) : Int := max (wonV s.st).1 (wonV s.st).2
def tieS (f : Fmt) (s : Spot) : Bool := brksV (setV f (wonV s.st)) s.g
def leastS (f : Fmt) (s : Spot) : Int := bif tieS f s then (setV f (wonV s.st)).2 else 4
def byS (f : Fmt) (s : Spot) : Int := bif tieS f s then 2 else bif f.noAd then 1 else 2
def gotS (f : Fmt) (s : Spot) (side : Int) : Bool := ldS (addV s.p side) side (leastS f s) (byS f s)
def endS' (f : Fmt) (s : Spot) (side : Int) : Bool := tieS f s || ldS (addV s.g side) side f.games 2
def stepS (f : Fmt) (s : Spot) (side : Int) : Spot :=
 bif gotS f s side then (bif endS' f s side then ⟨s.first, s.st ++ [addV s.g side], (0, 0), (0, 0)⟩ else ⟨s.first, s.st, addV s.g side, (0, 0)⟩) else ⟨s.first, s.st, s.g, addV s.p side⟩
def nxtS (f : Fmt) (s : Spot) (side : Int) : Option Spot := bif decide (topS s = f.sets) then none else some (stepS f s side)
def sumP (l : List Pr) : Int := (l.map fun p => p.1 + p.2).sum
def cntS (s : Spot) : Int := sumP s.st + (s.g.1 + s.g.2)
def winS (f : Fmt) (s : Spot) : Int := bif decide ((wonV s.st).1 = f.sets) then 0 else bif decide ((wonV s.st).2 = f.sets) then 1 else -1
def srvS (f : Fmt) (s : Spot) : Int := bif decide (topS s = f.sets) then -1 else servR f s.first (cntS s).toNat (tieS f s) (s.p.1 + s.p.2)
structure Rch (m : MS) : Prop where
 inv : m.Inv ∨ (m.Done ∧ max (wonV m.st).1 (wonV m.st).2 = m.f.sets ∧ m.winner = winS m.f (spotOf m))
 cnt : (m.gs.length : Int) = cntS (spotOf m)

theorem lds_eq {p : Pr} {side l b : Int} (hs : side = 0 ∨ side = 1) (hb : 1 ≤ b) (h : leadsV p l b = -1 ∨ leadsV p l b = side) : ldS p side l b = decide (leadsV p l b = side) := by
 rcases hs with rfl | rfl
 ·
  rw [ldS, decide_eq_false (by decide), cond_false, Bool.eq_iff_iff, Bool.and_eq_true, decide_eq_true_eq, decide_eq_true_eq, decide_eq_true_eq, leads_0]
 ·
  rw [ldS, decide_eq_true rfl, cond_true, Bool.eq_iff_iff, Bool.and_eq_true, decide_eq_true_eq, decide_eq_true_eq, decide_eq_true_eq, leads_1 hb]
theorem sumP_app (l : List Pr) (p : Pr) : sumP (l ++ [p]) = sumP l + (p.1 + p.2) := by
 unfold sumP; rw [List.map_append, List.sum_append]; simp
theorem next_spot (m : MS) : spotOf (nextV m) = spotOf m ∧ (nextV m).gs = m.gs ∧ (nextV m).f = m.f := by
 unfold nextV; cases decide (0 ≤ m.winner) <;> exact ⟨rfl, rfl, rfl⟩
section
variable {m : MS}
theorem got_eq (h : m.Inv) {side : Int} (hs : side = 0 ∨ side = 1) : gotS m.f (spotOf m) side = decide (m.w side = side) := by
 have hw := game_add (f := m.f) (s := setV m.f m.won) (t := m.tie) hs h.go
 have ht : tieS m.f (spotOf m) = m.tie := by rw [h.ta, h.won]; rfl
 have hv : setV m.f (wonV (spotOf m).st) = setV m.f m.won := by rw [h.won]; rfl
 rw [gotS, leastS, byS, ht, hv, MS.w]
 unfold gameV at hw ⊢
 cases htt : m.tie
 ·
  rw [htt] at hw
  cases hn : m.f.noAd
  ·
   rw [hn] at hw; exact lds_eq hs (by decide) hw
  ·
   rw [hn] at hw; exact lds_eq hs (by decide) hw
 ·
  rw [htt] at hw
  exact lds_eq (b := 2) hs (by decide) hw
theorem ends_eq (h : m.Inv) {side : Int} (hs : side = 0 ∨ side = 1) (hw : m.w side = side) : endS' m.f (spotOf m) side = setEnds m side := by
 have ht : tieS m.f (spotOf m) = m.tie := by rw [h.ta, h.won]; rfl
 have hl := leads_add (b := 2) (by decide) hs h.ld
 rw [endS', ht, setEnds]
 have e := lds_eq (p := addV m.g side) (l := m.f.games) (b := 2) hs (by decide) hl
 show (m.tie || ldS (addV m.g side) side m.f.games 2) = _
 rw [e]
 congr 1
 rw [Bool.eq_iff_iff, decide_eq_true_eq, decide_eq_true_eq]
 omega
theorem inv_top (h : m.Inv) : decide (topS (spotOf m) = m.f.sets) = false := by
 have := h.ws
 rw [h.won] at this
 apply decide_eq_false
 show ¬ max (wonV m.st).1 (wonV m.st).2 = m.f.sets
 omega
end
theorem rch_next {m : MS} (h1 : (nextV m).Inv) (h2 : (m.gs.length : Int) = cntS (spotOf m)) : Rch (nextV m) :=
 ⟨.inl h1, by rw [(next_spot m).1, (next_spot m).2.1]; exact h2⟩
theorem rch_begin {f : Fmt} (hf : f.Ok) (first : Int) : Rch (beginV f first) := rch_next (m := begin0 f first) (begin_inv hf first) rfl
theorem begin_spot (f : Fmt) (first : Int) : spotOf (beginV f first) = ⟨first, [], (0, 0), (0, 0)⟩ := (next_spot (begin0 f first)).1
theorem spot_step {m : MS} (hf : m.f.Ok) (h : m.Inv) (hc : (m.gs.length : Int) = cntS (spotOf m)) {side : Int} (hs : side = 0 ∨ side = 1) : nxtS m.f (spotOf m) side = some (spotOf (pointV m side)) ∧ Rch (pointV m side) := by
 have hst := point_step hf h hs
 have hn : nxtS m.f (spotOf m) side = some (stepS m.f (spotOf m) side) := by rw [nxtS, inv_top h]; rfl
 have hg := got_eq h hs
 rw [hn]
 unfold stepS
 generalize hm' : pointV m side = m' at hst
 have hsum := add_sum m.g side
 cases hst with
 | no hw hi =>
  rw [hg, decide_eq_false (by rw [hw]; omega)]
  exact ⟨rfl, .inl hi, hc⟩
 | game hw he hp hi =>
  rw [hg, decide_eq_true hw, ends_eq h hs hw, he]
  refine ⟨by rw [(next_spot _).1]; rfl, rch_next hi ?_⟩
  show ((m.gs ++ [gameG m side]).length : Int) = sumP m.st + ((addV m.g side).1 + (addV m.g side).2)
  rw [List.length_append, List.length_singleton, hsum]
  have : (m.gs.length : Int) = sumP m.st + (m.g.1 + m.g.2) := hc
  omega
 | set hw he hl ho hp hi =>
  rw [hg, decide_eq_true hw, ends_eq h hs hw, he]
  refine ⟨by rw [(next_spot _).1]; rfl, rch_next hi ?_⟩
  show ((m.gs ++ [gameG m side]).length : Int) = sumP (m.st ++ [addV m.g side]) + (0 + 0)
  rw [List.length_append, List.length_singleton, sumP_app, hsum]
  have : (m.gs.length : Int) = sumP m.st + (m.g.1 + m.g.2) := hc
  omega
 | over hw he hl ho =>
  rw [hg, decide_eq_true hw, ends_eq h hs hw, he]
  have hwn : wonV (m.st ++ [addV m.g side]) = addV m.won side := by rw [wonV_app, wside_eq hs hl, h.won]
  refine ⟨rfl, .inr ⟨⟨hs, rfl⟩, ?_, ?_⟩, ?_⟩
  ·
   show max (wonV (m.st ++ [addV m.g side])).1 (wonV (m.st ++ [addV m.g side])).2 = m.f.sets
   rw [hwn]; exact ho
  ·
   show side = winS m.f ⟨m.first, m.st ++ [addV m.g side], (0, 0), (0, 0)⟩
   have hws := h.ws
   unfold winS
   dsimp only
   rw [hwn]
   rcases hs with rfl | rfl
   ·
    rw [add_0] at ho ⊢
    dsimp only at ho ⊢
    rw [decide_eq_true (by omega)]; rfl
   ·
    rw [add_1] at ho ⊢
    dsimp only at ho ⊢
    rw [decide_eq_false (by omega), decide_eq_true (by omega)]; rfl
  ·
   show ((m.gs ++ [gameG m side]).length : Int) = sumP (m.st ++ [addV m.g side]) + (0 + 0)
   rw [List.length_append, List.length_singleton, sumP_app, hsum]
   have : (m.gs.length : Int) = sumP m.st + (m.g.1 + m.g.2) := hc
   omega
theorem playTo_rch {f : Fmt} {first : Int} {xs : List Int} (hf : f.Ok) : ∀ {k : Nat} {m : MS}, playTo f first xs k = some m → Rch m
 | 0, m, h => by
  simp only [playTo, Option.some.injEq] at h
  subst h
  exact rch_begin hf first
 | k + 1, m, h => by
  rw [playTo] at h
  cases h1 : playTo f first xs k with
  | none => rw [h1] at h; cases h
  | some m0 =>
   cases h2 : xs[k]? with
   | none => rw [h1, h2] at h; cases h
   | some s =>
    rw [h1, h2] at h
    dsimp only at h
    have hr := playTo_rch hf h1
    have hmf := (playTo_inv hf h1).1
    cases hb : sideBad s || decide (0 ≤ m0.winner)
    ·
     rw [hb] at h
     obtain rfl := Option.some.inj h
     simp only [Bool.or_eq_false_iff, decide_eq_false_iff_not] at hb
     have hs : s = 0 ∨ s = 1 := by
      have := hb.1
      unfold sideBad at this
      simp only [Bool.and_eq_false_iff, Bool.not_eq_false', decide_eq_true_eq] at this
      omega
     rcases hr.inv with hi | ⟨hd, _⟩
     ·
      exact (spot_step (hmf ▸ hf) hi hr.cnt hs).2
     ·
      have := hd.w; omega
    ·
     rw [hb] at h; cases h
theorem rch_win {m : MS} (h : Rch m) : m.winner = winS m.f (spotOf m) := by
 rcases h.inv with hi | ⟨_, _, hw⟩
 ·
  have := hi.ws
  rw [hi.won] at this
  rw [hi.w, winS, decide_eq_false (show ¬ (wonV (spotOf m).st).1 = m.f.sets by show ¬ (wonV m.st).1 = _; omega), decide_eq_false (show ¬ (wonV (spotOf m).st).2 = m.f.sets by show ¬ (wonV m.st).2 = _; omega)]; rfl
 ·
  exact hw
theorem rch_srv {m : MS} (hfs : 0 ≤ m.first ∧ m.first ≤ 1) (h : Rch m) : m.server = srvS m.f (spotOf m) := by
 rcases h.inv with hi | ⟨hd, ht, _⟩
 ·
  rw [srvS, inv_top hi, cond_false, hi.sv]
  have ht : tieS m.f (spotOf m) = m.tie := by rw [hi.ta, hi.won]; rfl
  have hc : (cntS (spotOf m)).toNat = m.gs.length := by rw [← h.cnt, Int.toNat_natCast]
  rw [ht, hc]
  refine (serv_eq hfs hi.tl rfl ?_).symm
  have := hi.p0
  show 0 ≤ m.p.1 + m.p.2
  omega
 ·
  rw [srvS, decide_eq_true (show topS (spotOf m) = m.f.sets from ht), cond_true]; exact hd.sv
end Go.Proofs.YthkliiifllhacaaGreat

namespace Go.Proofs.YthkliiifllhacaaGreat
open Go Go.RowKit

abbrev Mn := Int × Int × Int
abbrev En := Spot × Mn
def joinE (a b : Mn) : Mn := (min a.1 b.1, max a.2.1 b.2.1, min a.2.2 b.2.2)
def putC : List En → En → List En
 | [], e => [e]
 | x :: l, e => if x.1 = e.1 then (x.1, joinE x.2 e.2) :: l else x :: putC l e
def normC (l : List En) : List En := l.foldl putC []
def getC (l : List En) (s : Spot) : Option Mn := (l.find? fun e => decide (e.1 = s)).map (·.2)
def joinO (a b : Option Mn) : Option Mn := match a, b with
 | none, b => b
 | some x, none => some x
 | some x, some y => some (joinE x y)
def denC : List En → Spot → Option Mn
 | [], _ => none
 | e :: l, s => if e.1 = s then joinO (some e.2) (denC l s) else denC l s
theorem joinE_comm (a b : Mn) : joinE a b = joinE b a := Prod.ext (by simp only [joinE]; omega) (Prod.ext (by simp only [joinE]; omega) (by simp only [joinE]; omega))
theorem joinE_assoc (a b c : Mn) : joinE (joinE a b) c = joinE a (joinE b c) := Prod.ext (by simp only [joinE]; omega) (Prod.ext (by simp only [joinE]; omega) (by simp only [joinE]; omega))
theorem joinO_none (a : Option Mn) : joinO a none = a := by cases a <;> rfl
theorem joinO_comm (a b : Option Mn) : joinO a b = joinO b a := by
 cases a <;> cases b <;> simp only [joinO, joinE_comm]
theorem joinO_assoc (a b c : Option Mn) : joinO (joinO a b) c = joinO a (joinO b c) := by
 cases a <;> cases b <;> cases c <;> simp only [joinO, joinE_assoc]
theorem den_perm {l l' : List En} (h : l.Perm l') (s : Spot) : denC l s = denC l' s := by
 induction h with
 | nil => rfl
 | cons x _ ih => rw [denC, denC, ih]
 | swap x y l =>
  simp only [denC]
  by_cases h1 : x.1 = s <;> by_cases h2 : y.1 = s
  ·
   simp only [if_pos h1, if_pos h2]
   rw [← joinO_assoc, ← joinO_assoc, joinO_comm (some y.2)]
  ·
   simp only [if_pos h1, if_neg h2]
  ·
   simp only [if_neg h1, if_pos h2]
  ·
   simp only [if_neg h1, if_neg h2]
 | trans _ _ ih1 ih2 => rw [ih1, ih2]
theorem get_nil (s : Spot) : getC [] s = none := rfl
theorem get_cons (x : En) (l : List En) (s : Spot) : getC (x :: l) s = if x.1 = s then some x.2 else getC l s := by
 unfold getC
 rw [List.find?_cons]
 by_cases h : x.1 = s
 ·
  rw [decide_eq_true h, if_pos h]; rfl
 ·
  rw [decide_eq_false h, if_neg h]
theorem get_put (l : List En) (e : En) (s : Spot) : getC (putC l e) s = if e.1 = s then joinO (getC l s) (some e.2) else getC l s := by
 induction l with
 | nil => rw [putC, get_cons, get_nil]; rfl
 | cons x l ih =>
  rw [putC]
  by_cases hx : x.1 = e.1
  ·
   rw [if_pos hx, get_cons, get_cons]
   by_cases he : e.1 = s
   ·
    rw [if_pos (hx.trans he), if_pos he, if_pos (hx.trans he)]; rfl
   ·
    rw [if_neg (fun h => he (hx ▸ h)), if_neg he, if_neg (fun h => he (hx ▸ h))]
  ·
   rw [if_neg hx, get_cons, get_cons, ih]
   by_cases he : e.1 = s
   ·
    have hs : ¬ x.1 = s := fun h => hx (h.trans he.symm)
    simp only [if_pos he, if_neg hs]
   ·
    simp only [if_neg he]
theorem get_fold (l acc : List En) (s : Spot) : getC (l.foldl putC acc) s = joinO (getC acc s) (denC l s) := by
 induction l generalizing acc with
 | nil => rw [List.foldl_nil, denC, joinO_none]
 | cons e l ih =>
  rw [List.foldl_cons, ih, get_put, denC]
  by_cases h : e.1 = s
  ·
   rw [if_pos h, if_pos h, joinO_assoc]
  ·
   rw [if_neg h, if_neg h]
theorem get_norm (l : List En) (s : Spot) : getC (normC l) s = denC l s := by
 rw [normC, get_fold, get_nil]; rfl
def Keys (l : List En) : Prop := (l.map (·.1)).Nodup
theorem put_keys {l : List En} (e : En) (s : Spot) : s ∈ (putC l e).map (·.1) ↔ s ∈ l.map (·.1) ∨ s = e.1 := by
 induction l with
 | nil => simp [putC]
 | cons x l ih =>
  rw [putC]
  by_cases hx : x.1 = e.1
  ·
   rw [if_pos hx]
   simp only [List.map_cons, List.mem_cons]
   constructor
   ·
    exact fun h => .inl h
   ·
    rintro (h | h)
    ·
     exact h
    ·
     exact .inl (h.trans hx.symm)
  ·
   rw [if_neg hx]
   simp only [List.map_cons, List.mem_cons, ih]
   constructor
   ·
    rintro (h | h | h)
    ·
     exact .inl (.inl h)
    ·
     exact .inl (.inr h)
    ·
     exact .inr h
   ·
    rintro ((h | h) | h)
    ·
     exact .inl h
    ·
     exact .inr (.inl h)
    ·
     exact .inr (.inr h)
theorem put_nodup {l : List En} (e : En) (h : Keys l) : Keys (putC l e) := by
 induction l with
 | nil => unfold Keys putC; simp
 | cons x l ih =>
  unfold Keys at h ⊢
  rw [List.map_cons, List.nodup_cons] at h
  rw [putC]
  by_cases hx : x.1 = e.1
  ·
   rw [if_pos hx, List.map_cons, List.nodup_cons]; exact h
  ·
   rw [if_neg hx, List.map_cons, List.nodup_cons]
   refine ⟨fun hm => ?_, ih h.2⟩
   rcases (put_keys e x.1).1 hm with h1 | h1
   ·
    exact h.1 h1
   ·
    exact hx h1
theorem norm_nodup (l : List En) : Keys (normC l) := by
 have : ∀ (l acc : List En), Keys acc → Keys (l.foldl putC acc) := fun l => by
  induction l with
  | nil => exact fun acc h => h
  | cons e l ih => exact fun acc h => ih _ (put_nodup e h)
 exact this l [] List.nodup_nil
theorem mem_get {l : List En} (h : Keys l) (e : En) : e ∈ l ↔ getC l e.1 = some e.2 := by
 induction l with
 | nil => simp [getC]
 | cons x l ih =>
  unfold Keys at h
  rw [List.map_cons, List.nodup_cons] at h
  rw [get_cons, List.mem_cons, ih h.2]
  by_cases hx : x.1 = e.1
  ·
   rw [if_pos hx]
   constructor
   ·
    rintro (h1 | h1)
    ·
     rw [h1]
    ·
     exfalso
     have : e ∈ l := (ih h.2).2 h1
     exact h.1 (hx ▸ List.mem_map.2 ⟨e, this, rfl⟩)
   ·
    exact fun h1 => .inl (Prod.ext hx.symm (Option.some.inj h1).symm)
  ·
   rw [if_neg hx]
   constructor
   ·
    rintro (h1 | h1)
    ·
     exact absurd (congrArg Prod.fst h1).symm hx
    ·
     exact h1
   ·
    exact fun h1 => .inr h1
theorem keys_nodup {l : List En} (h : Keys l) : l.Nodup := by
 induction l with
 | nil => exact List.nodup_nil
 | cons x l ih =>
  unfold Keys at h
  rw [List.map_cons, List.nodup_cons] at h
  exact List.nodup_cons.2 ⟨fun hm => h.1 (List.mem_map.2 ⟨x, hm, rfl⟩), ih h.2⟩
theorem perm_of_get {l l' : List En} (h : Keys l) (h' : Keys l') (hg : ∀ s, getC l s = getC l' s) : l.Perm l' :=
 (List.perm_ext_iff_of_nodup (keys_nodup h) (keys_nodup h')).2 fun e => by rw [mem_get h, mem_get h', hg]
theorem norm_perm {l l' : List En} (h : l.Perm l') : (normC l).Perm (normC l') :=
 perm_of_get (norm_nodup l) (norm_nodup l') fun s => by rw [get_norm, get_norm, den_perm h]

def upE (e : En) (s : Spot) : En := (s, (e.2.1 + 1, e.2.2.1 + 1, e.2.2.2))
def goE (f : Fmt) (side : Int) (e : En) (p : Int) : List En := if side = -1 ∨ side = p then (match nxtS f e.1 p with | some s => [upE e s] | none => []) else []
def stepI (f : Fmt) (l : List En) (side : Int) : List En := l.flatMap fun e => goE f side e 0 ++ goE f side e 1
def stepC (f : Fmt) (l : List En) (side : Int) : List En := normC (stepI f l side)
def iterC (f : Fmt) (l : List En) : Nat → List En
 | 0 => l
 | k + 1 => stepC f (iterC f l k) (-1)
def missI (f : Fmt) (l : List En) (a : Int) : Nat → List En
 | 0 => []
 | k + 1 => missI f l a k ++ (if a ≤ (k : Int) then iterC f l k else [])
def missC (f : Fmt) (l : List En) (a : Int) (b : Nat) : List En := normC (missI f l a (b + 1))
theorem step_perm (f : Fmt) {l l' : List En} (side : Int) (h : l.Perm l') : (stepC f l side).Perm (stepC f l' side) := norm_perm (h.flatMap_right _)
theorem iter_perm (f : Fmt) {l l' : List En} (h : l.Perm l') : ∀ k, (iterC f l k).Perm (iterC f l' k)
 | 0 => h
 | k + 1 => step_perm f (-1) (iter_perm f h k)
theorem missI_perm (f : Fmt) {l l' : List En} (a : Int) (h : l.Perm l') : ∀ k, (missI f l a k).Perm (missI f l' a k)
 | 0 => .refl _
 | k + 1 => by
  rw [missI, missI]
  refine (missI_perm f a h k).append ?_
  by_cases ha : a ≤ (k : Int)
  ·
   rw [if_pos ha, if_pos ha]; exact iter_perm f h k
  ·
   rw [if_neg ha, if_neg ha]
theorem miss_perm (f : Fmt) {l l' : List En} (a : Int) (b : Nat) (h : l.Perm l') : (missC f l a b).Perm (missC f l' a b) := norm_perm (missI_perm f a h _)
structure Nt where
 (kind side : Int) (pair : Pr)
def holdS (f : Fmt) (x : Nt) (s : Spot) : Bool :=
 bif decide (x.kind = 3) then decide (s.p = x.pair) else bif decide (x.kind = 4) then decide (s.g = x.pair) && decide (s.p = (0, 0)) else
 bif decide (x.kind = 5) then decide (wonV s.st = x.pair) && (decide (s.g = (0, 0)) && decide (s.p = (0, 0))) else
 bif decide (x.kind = 6) then decide (0 ≤ srvS f s) && decide (srvS f s % 2 = x.side) else decide (winS f s = x.side)
def testC (f : Fmt) (x : Nt) (l : List En) : List En := l.filter fun e => holdS f x e.1
def afterC (f : Fmt) (l : List En) (x : Nt) : List En :=
 if x.kind = 1 then stepC f l x.side else if x.kind = 2 then missC f l x.pair.1 x.pair.2.toNat else testC f x l
theorem after_perm (f : Fmt) {l l' : List En} (x : Nt) (h : l.Perm l') : (afterC f l x).Perm (afterC f l' x) := by
 unfold afterC
 by_cases h1 : x.kind = 1
 ·
  rw [if_pos h1, if_pos h1]; exact step_perm f _ h
 ·
  rw [if_neg h1, if_neg h1]
  by_cases h2 : x.kind = 2
  ·
   rw [if_pos h2, if_pos h2]; exact miss_perm f _ _ h
  ·
   rw [if_neg h2, if_neg h2]; exact h.filter _
end Go.Proofs.YthkliiifllhacaaGreat

namespace Go.Proofs.YthkliiifllhacaaGreat
open Go Go.RowKit

def keyC (l : List En) : List Spot := l.map (·.1)
theorem norm_mem (l : List En) (s : Spot) : s ∈ keyC (normC l) ↔ s ∈ keyC l := by
 have : ∀ (l acc : List En), s ∈ keyC (l.foldl putC acc) ↔ s ∈ keyC acc ∨ s ∈ keyC l := fun l => by
  induction l with
  | nil => intro acc; simp [keyC]
  | cons e l ih =>
   intro acc
   rw [List.foldl_cons, ih]
   show s ∈ (putC acc e).map (·.1) ∨ s ∈ keyC l ↔ s ∈ keyC acc ∨ s ∈ (e :: l).map (·.1)
   rw [put_keys, List.map_cons, List.mem_cons]
   constructor
   ·
    rintro ((h | h) | h)
    ·
     exact .inl h
    ·
     exact .inr (.inl h)
    ·
     exact .inr (.inr h)
   ·
    rintro (h | h | h)
    ·
     exact .inl (.inl h)
    ·
     exact .inl (.inr h)
    ·
     exact .inr h
 rw [normC, this]
 simp [keyC]
def Pt (f : Fmt) (side : Int) (t s : Spot) : Prop := ∃ p : Int, (p = 0 ∨ p = 1) ∧ (side = -1 ∨ side = p) ∧ nxtS f t p = some s
def Pts (f : Fmt) (t : Spot) : Nat → Spot → Prop
 | 0, s => t = s
 | k + 1, s => ∃ u, Pts f t k u ∧ Pt f (-1) u s
def Rel (f : Fmt) (x : Nt) (t s : Spot) : Prop :=
 if x.kind = 1 then Pt f x.side t s else if x.kind = 2 then ∃ k : Nat, k ≤ x.pair.2.toNat ∧ x.pair.1 ≤ (k : Int) ∧ Pts f t k s else t = s ∧ holdS f x s = true
theorem go_mem {f : Fmt} {side : Int} {e : En} {p : Int} {s : Spot} : s ∈ keyC (goE f side e p) ↔ (side = -1 ∨ side = p) ∧ nxtS f e.1 p = some s := by
 unfold goE
 by_cases h : side = -1 ∨ side = p
 ·
  rw [if_pos h]
  cases hn : nxtS f e.1 p with
  | none => simp [keyC]
  | some t =>
   simp only [keyC, upE, List.map_cons, List.map_nil, List.mem_singleton, h, true_and, Option.some.injEq]
   exact ⟨fun h => h.symm, fun h => h.symm⟩
 ·
  rw [if_neg h]; simp [keyC, h]
theorem step_mem {f : Fmt} {l : List En} {side : Int} {s : Spot} : s ∈ keyC (stepC f l side) ↔ ∃ t ∈ keyC l, Pt f side t s := by
 rw [stepC, norm_mem]
 unfold stepI
 simp only [keyC, List.map_flatMap, List.mem_flatMap, List.map_append, List.mem_append]
 constructor
 ·
  rintro ⟨e, he, h | h⟩
  ·
   exact ⟨e.1, List.mem_map.2 ⟨e, he, rfl⟩, 0, .inl rfl, go_mem.1 h⟩
  ·
   exact ⟨e.1, List.mem_map.2 ⟨e, he, rfl⟩, 1, .inr rfl, go_mem.1 h⟩
 ·
  rintro ⟨t, ht, p, hp, h⟩
  obtain ⟨e, he, rfl⟩ := List.mem_map.1 ht
  rcases hp with rfl | rfl
  ·
   exact ⟨e, he, .inl (go_mem.2 h)⟩
  ·
   exact ⟨e, he, .inr (go_mem.2 h)⟩
theorem iter_mem {f : Fmt} {l : List En} : ∀ {k : Nat} {s : Spot}, s ∈ keyC (iterC f l k) ↔ ∃ t ∈ keyC l, Pts f t k s
 | 0, s => ⟨fun h => ⟨s, h, rfl⟩, fun ⟨t, ht, h⟩ => by cases h; exact ht⟩
 | k + 1, s => by
  rw [iterC, step_mem]
  constructor
  ·
   rintro ⟨u, hu, h⟩
   obtain ⟨t, ht, h'⟩ := iter_mem.1 hu
   exact ⟨t, ht, u, h', h⟩
  ·
   rintro ⟨t, ht, u, h', h⟩
   exact ⟨u, iter_mem.2 ⟨t, ht, h'⟩, h⟩
theorem missI_mem {f : Fmt} {l : List En} {a : Int} {s : Spot} : ∀ {n : Nat}, s ∈ keyC (missI f l a n) ↔ ∃ k : Nat, k < n ∧ a ≤ (k : Int) ∧ ∃ t ∈ keyC l, Pts f t k s
 | 0 => ⟨fun h => by simp [keyC, missI] at h, fun ⟨k, h, _⟩ => by omega⟩
 | n + 1 => by
  have : keyC (missI f l a (n + 1)) = keyC (missI f l a n) ++ keyC (if a ≤ (n : Int) then iterC f l n else []) := by rw [missI]; simp [keyC]
  rw [this, List.mem_append, missI_mem]
  constructor
  ·
   rintro (⟨k, h1, h2⟩ | h)
   ·
    exact ⟨k, by omega, h2⟩
   ·
    by_cases ha : a ≤ (n : Int)
    ·
     rw [if_pos ha] at h
     exact ⟨n, by omega, ha, iter_mem.1 h⟩
    ·
     rw [if_neg ha] at h; simp [keyC] at h
  ·
   rintro ⟨k, h1, h2, h3⟩
   by_cases e : k = n
   ·
    subst e
    rw [if_pos h2]
    exact .inr (iter_mem.2 h3)
   ·
    exact .inl ⟨k, by omega, h2, h3⟩
theorem after_mem {f : Fmt} {l : List En} {x : Nt} {s : Spot} : s ∈ keyC (afterC f l x) ↔ ∃ t ∈ keyC l, Rel f x t s := by
 unfold afterC Rel
 by_cases h1 : x.kind = 1
 ·
  simp only [if_pos h1]; exact step_mem
 ·
  simp only [if_neg h1]
  by_cases h2 : x.kind = 2
  ·
   simp only [if_pos h2]
   rw [missC, norm_mem, missI_mem]
   constructor
   ·
    rintro ⟨k, hk, ha, t, ht, h⟩
    exact ⟨t, ht, k, by omega, ha, h⟩
   ·
    rintro ⟨t, ht, k, hk, ha, h⟩
    exact ⟨k, by omega, ha, t, ht, h⟩
  ·
   simp only [if_neg h2]
   constructor
   ·
    intro h
    obtain ⟨e, he, rfl⟩ := List.mem_map.1 h
    obtain ⟨h3, h4⟩ := List.mem_filter.1 he
    exact ⟨e.1, List.mem_map.2 ⟨e, h3, rfl⟩, rfl, h4⟩
   ·
    rintro ⟨t, ht, rfl, h⟩
    obtain ⟨e, he, rfl⟩ := List.mem_map.1 ht
    exact List.mem_map.2 ⟨e, List.mem_filter.2 ⟨he, h⟩, rfl⟩

def begC (first : Int) : List En := (if first = -1 ∨ first = 0 then [(⟨0, [], (0, 0), (0, 0)⟩, (0, 0, 0))] else []) ++ (if first = -1 ∨ first = 1 then [(⟨1, [], (0, 0), (0, 0)⟩, (0, 0, 0))] else [])
def crowdC (f : Fmt) (first : Int) (xs : List Nt) : List En := xs.foldl (afterC f) (begC first)
theorem crowd_succ (f : Fmt) (first : Int) {xs : List Nt} {k : Nat} {x : Nt} (h : xs[k]? = some x) : crowdC f first (xs.take (k + 1)) = afterC f (crowdC f first (xs.take k)) x := by
 unfold crowdC
 rw [List.take_add_one, h, List.foldl_append]; rfl
def Lft (f : Fmt) (first : Int) (xs : List Nt) : Nat → Nat → Spot → Prop
 | 0, k, s => k = 0 ∧ s ∈ keyC (begC first)
 | j + 1, k, s => (∃ x t, xs[j]? = some x ∧ Lft f first xs j k t ∧ Rel f x t s) ∨ ∃ k', k = k' + 1 ∧ Lft f first xs j k' s
theorem lft_le {f : Fmt} {first : Int} {xs : List Nt} : ∀ {j k : Nat} {s : Spot}, Lft f first xs j k s → k ≤ j
 | 0, k, s, h => by have := h.1; omega
 | j + 1, k, s, h => by
  rcases h with ⟨_, _, _, h, _⟩ | ⟨k', rfl, h⟩
  ·
   have := lft_le h; omega
  ·
   have := lft_le h; omega
end Go.Proofs.YthkliiifllhacaaGreat

namespace Go.Proofs.YthkliiifllhacaaGreat
open Go Go.RowKit

def Mo (l : List En) (R : Int → Spot → Prop) : Prop := (∀ e ∈ l, R e.2.2.2 e.1) ∧ ∀ n s, R n s → ∃ e ∈ l, e.1 = s ∧ e.2.2.2 ≤ n
theorem Mo.iff {l : List En} {R R' : Int → Spot → Prop} (h : Mo l R) (hi : ∀ n s, R n s ↔ R' n s) : Mo l R' := ⟨fun e he => (hi _ _).1 (h.1 e he), fun n s hr => h.2 n s ((hi _ _).2 hr)⟩
theorem den_out {l : List En} {s : Spot} {v : Mn} (h : denC l s = some v) : (∃ e ∈ l, e.1 = s ∧ e.2.2.2 = v.2.2) ∧ ∀ e ∈ l, e.1 = s → v.2.2 ≤ e.2.2.2 := by
 induction l generalizing v with
 | nil => cases h
 | cons e l ih =>
  rw [denC] at h
  by_cases he : e.1 = s
  ·
   rw [if_pos he] at h
   cases hd : denC l s with
   | none =>
    rw [hd] at h
    have hv : e.2 = v := Option.some.inj h
    subst hv
    refine ⟨⟨e, List.mem_cons_self, he, rfl⟩, fun e' he' hs => ?_⟩
    rcases List.mem_cons.1 he' with rfl | hm
    ·
     exact Int.le_refl _
    ·
     exfalso
     have : ∀ l : List En, e' ∈ l → e'.1 = s → denC l s ≠ none := fun l => by
      induction l with
      | nil => intro h; cases h
      | cons y l ih2 =>
       intro hy hs2 hn
       rw [denC] at hn
       by_cases h3 : y.1 = s
       ·
        rw [if_pos h3] at hn
        cases hq : denC l s <;> rw [hq] at hn <;> cases hn
       ·
        rw [if_neg h3] at hn
        rcases List.mem_cons.1 hy with rfl | hy
        ·
         exact h3 hs2
        ·
         exact ih2 hy hs2 hn
     exact this l hm hs hd
   | some u =>
    rw [hd] at h
    have hv : joinE e.2 u = v := Option.some.inj h
    subst hv
    obtain ⟨⟨e1, h1, h2, h3⟩, h4⟩ := ih hd
    have hj : (joinE e.2 u).2.2 = min e.2.2.2 u.2.2 := rfl
    rw [hj]
    refine ⟨?_, fun e' he' hs => ?_⟩
    ·
     by_cases hle : e.2.2.2 ≤ u.2.2
     ·
      exact ⟨e, List.mem_cons_self, he, by omega⟩
     ·
      exact ⟨e1, List.mem_cons_of_mem _ h1, h2, by omega⟩
    ·
     rcases List.mem_cons.1 he' with rfl | hm
     ·
      omega
     ·
      have := h4 e' hm hs; omega
  ·
   rw [if_neg he] at h
   obtain ⟨⟨e1, h1, h2, h3⟩, h4⟩ := ih h
   refine ⟨⟨e1, List.mem_cons_of_mem _ h1, h2, h3⟩, fun e' he' hs => ?_⟩
   rcases List.mem_cons.1 he' with rfl | hm
   ·
    exact absurd hs he
   ·
    exact h4 e' hm hs
theorem den_mem {l : List En} {s : Spot} (h : s ∈ keyC l) : ∃ v, denC l s = some v := by
 have := (norm_mem l s).2 h
 obtain ⟨e, he, rfl⟩ := List.mem_map.1 this
 exact ⟨e.2, by rw [← get_norm]; exact (mem_get (norm_nodup l) e).1 he⟩
theorem Mo.of_den {l l' : List En} {R : Int → Spot → Prop} (h : Mo l R) (hk : Keys l') (hg : ∀ s, getC l' s = denC l s) : Mo l' R := by
 refine ⟨fun e he => ?_, fun n s hr => ?_⟩
 ·
  have := (mem_get hk e).1 he
  rw [hg] at this
  obtain ⟨⟨e1, h1, h2, h3⟩, _⟩ := den_out this
  have := h.1 e1 h1
  rwa [h2, h3] at this
 ·
  obtain ⟨e, he, hs, hn⟩ := h.2 n s hr
  obtain ⟨v, hv⟩ := den_mem (List.mem_map.2 ⟨e, he, hs⟩)
  have h4 := (den_out hv).2 e he hs
  exact ⟨(s, v), (mem_get hk (s, v)).2 (by rw [hg]; exact hv), rfl, by show v.2.2 ≤ n; omega⟩
theorem Mo.norm {l : List En} {R : Int → Spot → Prop} (h : Mo l R) : Mo (normC l) R := h.of_den (norm_nodup l) (get_norm l)
theorem Mo.app {l l' : List En} {R R' : Int → Spot → Prop} (h : Mo l R) (h' : Mo l' R') : Mo (l ++ l') (fun n s => R n s ∨ R' n s) := by
 refine ⟨fun e he => ?_, fun n s hr => ?_⟩
 ·
  rcases List.mem_append.1 he with he | he
  ·
   exact .inl (h.1 e he)
  ·
   exact .inr (h'.1 e he)
 ·
  rcases hr with hr | hr
  ·
   obtain ⟨e, he, h2⟩ := h.2 n s hr
   exact ⟨e, List.mem_append_left _ he, h2⟩
  ·
   obtain ⟨e, he, h2⟩ := h'.2 n s hr
   exact ⟨e, List.mem_append_right _ he, h2⟩
theorem go_out {f : Fmt} {side : Int} {e : En} {p : Int} {u : En} : u ∈ goE f side e p ↔ (side = -1 ∨ side = p) ∧ nxtS f e.1 p = some u.1 ∧ u = upE e u.1 := by
 unfold goE
 by_cases h : side = -1 ∨ side = p
 ·
  rw [if_pos h]
  cases hn : nxtS f e.1 p with
  | none => simp
  | some t =>
   simp only [List.mem_singleton, h, true_and, Option.some.injEq]
   constructor
   ·
    rintro rfl; exact ⟨rfl, rfl⟩
   ·
    rintro ⟨rfl, h2⟩; exact h2
 ·
  rw [if_neg h]; simp [h]
theorem Mo.step {f : Fmt} {l : List En} {R : Int → Spot → Prop} (side : Int) (h : Mo l R) : Mo (stepC f l side) (fun n s => ∃ t, R n t ∧ Pt f side t s) := by
 refine Mo.norm ⟨fun u hu => ?_, fun n s hr => ?_⟩
 ·
  obtain ⟨e, he, hu⟩ := List.mem_flatMap.1 hu
  rcases List.mem_append.1 hu with hu | hu
  ·
   obtain ⟨h1, h2, h3⟩ := go_out.1 hu
   exact ⟨e.1, by rw [h3]; exact h.1 e he, 0, .inl rfl, h1, h2⟩
  ·
   obtain ⟨h1, h2, h3⟩ := go_out.1 hu
   exact ⟨e.1, by rw [h3]; exact h.1 e he, 1, .inr rfl, h1, h2⟩
 ·
  obtain ⟨t, ht, p, hp, hsd, hn⟩ := hr
  obtain ⟨e, he, rfl, hle⟩ := h.2 n t ht
  refine ⟨upE e s, List.mem_flatMap.2 ⟨e, he, ?_⟩, rfl, hle⟩
  rcases hp with rfl | rfl
  ·
   exact List.mem_append_left _ (go_out.2 ⟨hsd, hn, rfl⟩)
  ·
   exact List.mem_append_right _ (go_out.2 ⟨hsd, hn, rfl⟩)
theorem Mo.iter {f : Fmt} {l : List En} {R : Int → Spot → Prop} (h : Mo l R) : ∀ k, Mo (iterC f l k) (fun n s => ∃ t, R n t ∧ Pts f t k s)
 | 0 => h.iff fun n s => ⟨fun hr => ⟨s, hr, rfl⟩, fun ⟨t, hr, ht⟩ => by cases ht; exact hr⟩
 | k + 1 => ((h.iter k).step (-1)).iff fun n s => ⟨fun ⟨u, ⟨t, hr, hp⟩, h2⟩ => ⟨t, hr, u, hp, h2⟩, fun ⟨t, hr, u, hp, h2⟩ => ⟨u, ⟨t, hr, hp⟩, h2⟩⟩
theorem Mo.nil : Mo [] (fun _ _ => False) := ⟨fun e he => (by cases he), fun n s h => h.elim⟩
theorem Mo.missI {f : Fmt} {l : List En} {R : Int → Spot → Prop} (a : Int) (h : Mo l R) : ∀ n, Mo (missI f l a n) (fun m s => ∃ t, R m t ∧ ∃ k : Nat, k < n ∧ a ≤ (k : Int) ∧ Pts f t k s)
 | 0 => Mo.nil.iff fun m s => ⟨fun h => h.elim, fun ⟨t, _, k, hk, _⟩ => by omega⟩
 | n + 1 => by
  unfold Go.Proofs.YthkliiifllhacaaGreat.missI
  by_cases ha : a ≤ (n : Int)
  ·
   rw [if_pos ha]
   refine ((h.missI a n).app (h.iter (f := f) n)).iff fun m s => ⟨?_, ?_⟩
   ·
    rintro (⟨t, hr, k, hk, h2⟩ | ⟨t, hr, hp⟩)
    ·
     exact ⟨t, hr, k, by omega, h2⟩
    ·
     exact ⟨t, hr, n, by omega, ha, hp⟩
   ·
    rintro ⟨t, hr, k, hk, h2, h3⟩
    by_cases e : k = n
    ·
     subst e; exact .inr ⟨t, hr, h3⟩
    ·
     exact .inl ⟨t, hr, k, by omega, h2, h3⟩
  ·
   rw [if_neg ha, List.append_nil]
   refine (h.missI a n).iff fun m s => ⟨?_, ?_⟩
   ·
    rintro ⟨t, hr, k, hk, h2⟩
    exact ⟨t, hr, k, by omega, h2⟩
   ·
    rintro ⟨t, hr, k, hk, h2, h3⟩
    exact ⟨t, hr, k, by by_cases e : k = n; (subst e; exact absurd h2 ha); omega, h2, h3⟩
theorem Mo.after {f : Fmt} {l : List En} {R : Int → Spot → Prop} (x : Nt) (h : Mo l R) : Mo (afterC f l x) (fun n s => ∃ t, R n t ∧ Rel f x t s) := by
 unfold afterC
 by_cases h1 : x.kind = 1
 ·
  rw [if_pos h1]
  refine (h.step x.side).iff fun n s => ?_
  unfold Rel; simp only [if_pos h1]
 ·
  rw [if_neg h1]
  by_cases h2 : x.kind = 2
  ·
   rw [if_pos h2]
   refine (h.missI (f := f) x.pair.1 (x.pair.2.toNat + 1)).norm.iff fun n s => ?_
   unfold Rel
   simp only [if_neg h1, if_pos h2]
   constructor
   ·
    rintro ⟨t, hr, k, hk, h3⟩; exact ⟨t, hr, k, by omega, h3⟩
   ·
    rintro ⟨t, hr, k, hk, h3⟩; exact ⟨t, hr, k, by omega, h3⟩
  ·
   rw [if_neg h2]
   refine ⟨fun e he => ?_, fun n s hr => ?_⟩
   ·
    obtain ⟨h3, h4⟩ := List.mem_filter.1 he
    refine ⟨e.1, h.1 e h3, ?_⟩
    unfold Rel; rw [if_neg h1, if_neg h2]; exact ⟨rfl, h4⟩
   ·
    obtain ⟨t, ht, hr⟩ := hr
    unfold Rel at hr; rw [if_neg h1, if_neg h2] at hr
    obtain ⟨rfl, hh⟩ := hr
    obtain ⟨e, he, rfl, hle⟩ := h.2 n t ht
    exact ⟨e, List.mem_filter.2 ⟨he, hh⟩, rfl, hle⟩

end Go.Proofs.YthkliiifllhacaaGreat

namespace Go.Proofs.YthkliiifllhacaaGreat
open Go Go.RowKit

def Run (f : Fmt) (K : Spot → Prop) : List Nt → Spot → Prop
 | [], s => K s
 | x :: xs, s => Run f (fun u => ∃ t, K t ∧ Rel f x t u) xs s
end Go.Proofs.YthkliiifllhacaaGreat

namespace Go.Proofs.YthkliiifllhacaaGreat
open Go Go.RowKit

def brdOf (s : Spot) : Brd := ⟨s.st, s.g, s.p⟩
theorem srt_same {α : Type} {lt : α → α → Prop} (irr : ∀ a, ¬ lt a a) (asym : ∀ a b, lt a b → ¬ lt b a) : ∀ {l l' : List α}, l.Pairwise lt → l'.Pairwise lt → (∀ a, a ∈ l ↔ a ∈ l') → l = l'
 | [], [], _, _, _ => rfl
 | [], b :: l', _, _, h => by cases (h b).2 List.mem_cons_self
 | a :: l, [], _, _, h => by cases (h a).1 List.mem_cons_self
 | a :: l, b :: l', h1, h2, h => by
  obtain ⟨ha, h3⟩ := List.pairwise_cons.1 h1
  obtain ⟨hb, h4⟩ := List.pairwise_cons.1 h2
  have hab : a = b := by
   rcases List.mem_cons.1 ((h a).1 List.mem_cons_self) with e | hm
   ·
    exact e
   ·
    rcases List.mem_cons.1 ((h b).2 List.mem_cons_self) with e | hm'
    ·
     exact e.symm
    ·
     exact absurd (ha b hm') (asym _ _ (hb a hm))
  subst hab
  refine congrArg (a :: ·) (srt_same irr asym h3 h4 fun c => ?_)
  constructor
  ·
   intro hc
   rcases List.mem_cons.1 ((h c).1 (List.mem_cons_of_mem _ hc)) with rfl | hm
   ·
    exact absurd (ha c hc) (irr c)
   ·
    exact hm
  ·
   intro hc
   rcases List.mem_cons.1 ((h c).2 (List.mem_cons_of_mem _ hc)) with rfl | hm
   ·
    exact absurd (hb c hc) (irr c)
   ·
    exact hm
def orI (a b : Int) : Int := if a ≠ 0 then a else b
def cmpP (a b : Pr) : Int := orI (a.1 - b.1) (a.2 - b.2)
def cmpL : List Pr → List Pr → Int
 | [], [] => 0
 | [], _ :: _ => -1
 | _ :: _, [] => 1
 | a :: l, b :: l' => orI (cmpP a b) (cmpL l l')
def cmpB (a b : Brd) : Int := orI (orI (cmpL a.st b.st) (cmpP a.g b.g)) (cmpP a.p b.p)
theorem cmpP_zero {a b : Pr} : cmpP a b = 0 ↔ a = b := by
 unfold cmpP orI
 constructor
 ·
  intro h
  by_cases h1 : a.1 - b.1 ≠ 0
  ·
   rw [if_pos h1] at h; exact absurd h h1
  ·
   rw [if_neg h1] at h; exact Prod.ext (by omega) (by omega)
 ·
  rintro rfl
  rw [if_neg (by omega)]; omega
theorem cmpL_zero : ∀ {a b : List Pr}, cmpL a b = 0 ↔ a = b
 | [], [] => ⟨fun _ => rfl, fun _ => rfl⟩
 | [], _ :: _ => ⟨fun h => absurd h (by show ¬ (-1 : Int) = 0; decide), fun h => by cases h⟩
 | _ :: _, [] => ⟨fun h => absurd h (by show ¬ (1 : Int) = 0; decide), fun h => by cases h⟩
 | a :: l, b :: l' => by
  rw [cmpL, orI]
  constructor
  ·
   intro h
   by_cases h1 : cmpP a b ≠ 0
   ·
    rw [if_pos h1] at h; exact absurd h h1
   ·
    rw [if_neg h1] at h
    have e := cmpP_zero.1 (show cmpP a b = 0 by omega)
    rw [e, cmpL_zero.1 h]
  ·
   intro h
   obtain ⟨rfl, rfl⟩ := List.cons.inj h
   rw [if_neg (by rw [cmpP_zero.2 rfl]; omega)]
   exact cmpL_zero.2 rfl
theorem orI_zero {a b : Int} : orI a b = 0 ↔ a = 0 ∧ b = 0 := by
 unfold orI
 by_cases h : a ≠ 0
 ·
  rw [if_pos h]; omega
 ·
  rw [if_neg h]; omega
theorem cmpB_zero {a b : Brd} : cmpB a b = 0 ↔ a = b := by
 unfold cmpB
 rw [orI_zero, orI_zero, cmpL_zero, cmpP_zero, cmpP_zero]
 constructor
 ·
  rintro ⟨⟨h1, h2⟩, h3⟩
  cases a; cases b
  cases h1; cases h2; cases h3; rfl
 ·
  rintro rfl; exact ⟨⟨rfl, rfl⟩, rfl⟩
theorem cmpP_neg {a b : Pr} : (cmpP a b < 0 ↔ 0 < cmpP b a) := by
 unfold cmpP orI
 by_cases h : a.1 - b.1 ≠ 0
 ·
  rw [if_pos h, if_pos (by omega)]; omega
 ·
  rw [if_neg h, if_neg (by omega)]; omega
theorem orI_neg {a b a' b' : Int} (h1 : a < 0 ↔ 0 < a') (h2 : 0 < a ↔ a' < 0) (h3 : b < 0 ↔ 0 < b') : orI a b < 0 ↔ 0 < orI a' b' := by
 unfold orI
 by_cases h : a ≠ 0
 ·
  rw [if_pos h, if_pos (by omega)]; exact h1
 ·
  rw [if_neg h, if_neg (by omega)]; exact h3
theorem cmpL_neg : ∀ {a b : List Pr}, cmpL a b < 0 ↔ 0 < cmpL b a
 | [], [] => by decide
 | [], _ :: _ => ⟨fun _ => by show (0 : Int) < 1; decide, fun _ => by show (-1 : Int) < 0; decide⟩
 | _ :: _, [] => ⟨fun h => by exact absurd h (by show ¬ (1 : Int) < 0; decide), fun h => by exact absurd h (by show ¬ (0 : Int) < -1; decide)⟩
 | a :: l, b :: l' => by
  rw [cmpL, cmpL]
  exact orI_neg cmpP_neg (cmpP_neg (a := b) (b := a)).symm cmpL_neg
theorem cmpB_neg {a b : Brd} : cmpB a b < 0 ↔ 0 < cmpB b a := by
 unfold cmpB
 exact orI_neg (orI_neg cmpL_neg (cmpL_neg (a := b.st) (b := a.st)).symm cmpP_neg) (orI_neg (cmpL_neg (a := b.st) (b := a.st)) cmpL_neg.symm (cmpP_neg (a := b.g) (b := a.g))).symm cmpP_neg
theorem cmpP_trans {a b c : Pr} (h1 : cmpP a b < 0) (h2 : cmpP b c < 0) : cmpP a c < 0 := by
 unfold cmpP orI at *
 by_cases e1 : a.1 - b.1 ≠ 0 <;> by_cases e2 : b.1 - c.1 ≠ 0
 ·
  rw [if_pos e1] at h1; rw [if_pos e2] at h2; rw [if_pos (by omega)]; omega
 ·
  rw [if_pos e1] at h1; rw [if_neg e2] at h2; rw [if_pos (by omega)]; omega
 ·
  rw [if_neg e1] at h1; rw [if_pos e2] at h2; rw [if_pos (by omega)]; omega
 ·
  rw [if_neg e1] at h1; rw [if_neg e2] at h2; rw [if_neg (by omega)]; omega
theorem cmpL_trans : ∀ {a b c : List Pr}, cmpL a b < 0 → cmpL b c < 0 → cmpL a c < 0
 | [], [], _, h1, _ => absurd h1 (by show ¬ (0 : Int) < 0; decide)
 | [], _ :: _, [], _, h2 => absurd h2 (by show ¬ (1 : Int) < 0; decide)
 | [], _ :: _, _ :: _, _, _ => by show (-1 : Int) < 0; decide
 | _ :: _, [], _, h1, _ => absurd h1 (by show ¬ (1 : Int) < 0; decide)
 | _ :: _, _ :: _, [], _, h2 => absurd h2 (by show ¬ (1 : Int) < 0; decide)
 | a :: l, b :: m, c :: n, h1, h2 => by
  rw [cmpL, orI] at h1 h2 ⊢
  by_cases e1 : cmpP a b ≠ 0 <;> by_cases e2 : cmpP b c ≠ 0
  ·
   rw [if_pos e1] at h1; rw [if_pos e2] at h2
   have := cmpP_trans h1 h2
   rw [if_pos (by omega)]; exact this
  ·
   rw [if_pos e1] at h1; rw [if_neg e2] at h2
   have e : b = c := cmpP_zero.1 (by omega)
   subst e
   rw [if_pos e1]; exact h1
  ·
   rw [if_neg e1] at h1; rw [if_pos e2] at h2
   have e : a = b := cmpP_zero.1 (by omega)
   subst e
   rw [if_pos e2]; exact h2
  ·
   rw [if_neg e1] at h1; rw [if_neg e2] at h2
   have e : a = b := cmpP_zero.1 (by omega)
   subst e
   rw [if_neg e2]; exact cmpL_trans h1 h2
theorem cmpB_trans {a b c : Brd} (h1 : cmpB a b < 0) (h2 : cmpB b c < 0) : cmpB a c < 0 := by
 unfold cmpB orI at *
 by_cases s1 : cmpL a.st b.st ≠ 0 <;> by_cases s2 : cmpL b.st c.st ≠ 0
 ·
  simp only [if_pos s1] at h1
  simp only [if_pos s2] at h2
  have := cmpL_trans h1 h2
  rw [if_pos (show cmpL a.st c.st ≠ 0 by omega), if_pos (show cmpL a.st c.st ≠ 0 by omega)]; exact this
 ·
  have e : b.st = c.st := cmpL_zero.1 (by omega)
  rw [← e, if_pos s1, if_pos s1]
  rw [if_pos s1, if_pos s1] at h1; exact h1
 ·
  have e : a.st = b.st := cmpL_zero.1 (by omega)
  rw [e, if_pos s2, if_pos s2]
  rw [if_pos s2, if_pos s2] at h2; exact h2
 ·
  have e1 : a.st = b.st := cmpL_zero.1 (by omega)
  rw [if_neg s1] at h1
  rw [if_neg s2] at h2
  rw [e1, if_neg s2]
  by_cases g1 : cmpP a.g b.g ≠ 0 <;> by_cases g2 : cmpP b.g c.g ≠ 0
  ·
   rw [if_pos g1] at h1; rw [if_pos g2] at h2
   have := cmpP_trans h1 h2
   rw [if_pos (by omega)]; exact this
  ·
   rw [if_pos g1] at h1
   have e : b.g = c.g := cmpP_zero.1 (by omega)
   rw [← e, if_pos g1]; exact h1
  ·
   rw [if_pos g2] at h2
   have e : a.g = b.g := cmpP_zero.1 (by omega)
   rw [e, if_pos g2]; exact h2
  ·
   rw [if_neg g1] at h1; rw [if_neg g2] at h2
   have e : a.g = b.g := cmpP_zero.1 (by omega)
   rw [e, if_neg g2]; exact cmpP_trans h1 h2
def SrtB (l : List Brd) : Prop := l.Pairwise fun a b => cmpB a b < 0
theorem srtB_same {l l' : List Brd} (h : SrtB l) (h' : SrtB l') (hm : ∀ b, b ∈ l ↔ b ∈ l') : l = l' :=
 srt_same (fun a h => by rw [cmpB_zero.2 rfl] at h; omega) (fun a b h1 h2 => by have := cmpB_neg.1 h1; omega) h h' hm
end Go.Proofs.YthkliiifllhacaaGreat

namespace Go.Proofs.YthkliiifllhacaaGreat
open Go Go.RowKit

def posB (l : List Brd) (b : Brd) : Nat := l.findIdx fun c => decide (cmpB b c < 0)
def insB (l : List Brd) (b : Brd) : List Brd := if b ∈ l then l else l.take (posB l b) ++ b :: l.drop (posB l b)
theorem cmpB_pos {a b : Brd} (h : ¬ cmpB a b < 0) (hne : a ≠ b) : cmpB b a < 0 := by
 have h0 : cmpB a b ≠ 0 := fun e => hne (cmpB_zero.1 e)
 exact cmpB_neg.2 (by omega)
theorem ins_mem {l : List Brd} {b c : Brd} : c ∈ insB l b ↔ c = b ∨ c ∈ l := by
 unfold insB
 by_cases h : b ∈ l
 ·
  rw [if_pos h]
  exact ⟨.inr, fun hc => hc.elim (fun e => e ▸ h) id⟩
 ·
  rw [if_neg h, List.mem_append, List.mem_cons]
  have : c ∈ l ↔ c ∈ l.take (posB l b) ∨ c ∈ l.drop (posB l b) := by rw [← List.mem_append, List.take_append_drop]
  rw [this]
  constructor
  ·
   rintro (h | h | h)
   ·
    exact .inr (.inl h)
   ·
    exact .inl h
   ·
    exact .inr (.inr h)
  ·
   rintro (h | h | h)
   ·
    exact .inr (.inl h)
   ·
    exact .inl h
   ·
    exact .inr (.inr h)
theorem ins_srt {l : List Brd} {b : Brd} (h : SrtB l) : SrtB (insB l b) := by
 unfold insB
 by_cases hb : b ∈ l
 ·
  rw [if_pos hb]; exact h
 ·
  rw [if_neg hb]
  have hspl : SrtB (l.take (posB l b) ++ l.drop (posB l b)) := by rw [List.take_append_drop]; exact h
  obtain ⟨h1, h2, h3⟩ := List.pairwise_append.1 hspl
  have hlo : ∀ c ∈ l.take (posB l b), cmpB c b < 0 := fun c hc => by
   obtain ⟨i, hi, rfl⟩ := List.getElem_of_mem hc
   rw [List.length_take] at hi
   rw [List.getElem_take]
   have hn := List.not_of_lt_findIdx (p := fun c => decide (cmpB b c < 0)) (xs := l) (i := i) (by unfold posB at hi; omega)
   refine cmpB_pos ?_ fun e => hb (e ▸ List.getElem_mem _)
   simpa using hn
  have hhi : ∀ c ∈ l.drop (posB l b), cmpB b c < 0 := fun c hc => by
   by_cases hp : posB l b < l.length
   ·
    have h0 : cmpB b l[posB l b] < 0 := by
     have := List.findIdx_getElem (p := fun c => decide (cmpB b c < 0)) (xs := l) (w := hp)
     exact of_decide_eq_true this
    rw [List.drop_eq_getElem_cons hp] at hc h2
    rcases List.mem_cons.1 hc with rfl | hc
    ·
     exact h0
    ·
     exact cmpB_trans h0 ((List.pairwise_cons.1 h2).1 c hc)
   ·
    rw [List.drop_eq_nil_of_le (by omega)] at hc; cases hc
  refine List.pairwise_append.2 ⟨h1, List.pairwise_cons.2 ⟨hhi, h2⟩, fun x hx y hy => ?_⟩
  rcases List.mem_cons.1 hy with rfl | hy
  ·
   exact hlo x hx
  ·
   exact h3 x hx y hy
def boardsC (l : List Spot) : List Brd := l.foldl (fun o s => insB o (brdOf s)) []
theorem boards_facts (l : List Spot) : SrtB (boardsC l) ∧ ∀ b, b ∈ boardsC l ↔ ∃ s ∈ l, brdOf s = b := by
 have : ∀ (l : List Spot) (o : List Brd), SrtB o → SrtB (l.foldl (fun o s => insB o (brdOf s)) o) ∧ ∀ b, b ∈ l.foldl (fun o s => insB o (brdOf s)) o ↔ b ∈ o ∨ ∃ s ∈ l, brdOf s = b := fun l => by
  induction l with
  | nil => exact fun o h => ⟨h, fun b => ⟨.inl, fun h => h.elim id fun ⟨_, h, _⟩ => by cases h⟩⟩
  | cons s l ih =>
   intro o h
   rw [List.foldl_cons]
   obtain ⟨h1, h2⟩ := ih (insB o (brdOf s)) (ins_srt h)
   refine ⟨h1, fun b => ?_⟩
   rw [h2, ins_mem]
   constructor
   ·
    rintro ((e | h) | ⟨t, ht, h⟩)
    ·
     exact .inr ⟨s, List.mem_cons_self, e.symm⟩
    ·
     exact .inl h
    ·
     exact .inr ⟨t, List.mem_cons_of_mem _ ht, h⟩
   ·
    rintro (h | ⟨t, ht, h⟩)
    ·
     exact .inl (.inr h)
    ·
     rcases List.mem_cons.1 ht with rfl | ht
     ·
      exact .inl (.inl h.symm)
     ·
      exact .inr ⟨t, ht, h⟩
 obtain ⟨h1, h2⟩ := this l [] List.Pairwise.nil
 exact ⟨h1, fun b => by rw [boardsC, h2]; exact ⟨fun h => h.elim (fun h => by cases h) id, .inr⟩⟩
def cptB : List Brd → List Brd
 | [] => []
 | [b] => [b]
 | b :: c :: l => if b = c then cptB (c :: l) else b :: cptB (c :: l)
theorem cpt_mem : ∀ {l : List Brd} {b : Brd}, b ∈ cptB l ↔ b ∈ l
 | [], b => Iff.rfl
 | [_], b => Iff.rfl
 | a :: c :: l, b => by
  rw [cptB]
  by_cases h : a = c
  ·
   subst h
   rw [if_pos rfl, cpt_mem, List.mem_cons, List.mem_cons, List.mem_cons]
   constructor
   ·
    exact .inr
   ·
    rintro (h | h)
    ·
     exact .inl h
    ·
     exact h
  ·
   rw [if_neg h, List.mem_cons, cpt_mem, ← List.mem_cons]
theorem cpt_srt : ∀ {l : List Brd}, l.Pairwise (fun a b => cmpB a b ≤ 0) → SrtB (cptB l)
 | [], _ => List.Pairwise.nil
 | [_], _ => List.pairwise_singleton _ _
 | a :: c :: l, h => by
  rw [cptB]
  obtain ⟨h1, h2⟩ := List.pairwise_cons.1 h
  by_cases e : a = c
  ·
   rw [if_pos e]; exact cpt_srt h2
  ·
   rw [if_neg e]
   refine List.pairwise_cons.2 ⟨fun b hb => ?_, cpt_srt h2⟩
   have hac : cmpB a c < 0 := by
    have := h1 c List.mem_cons_self
    have : cmpB a c ≠ 0 := fun e' => e (cmpB_zero.1 e')
    omega
   have hb' := cpt_mem.1 hb
   rcases List.mem_cons.1 hb' with rfl | hb'
   ·
    exact hac
   ·
    have hcb := (List.pairwise_cons.1 h2).1 b hb'
    by_cases e2 : c = b
    ·
     subst e2; exact hac
    ·
     exact cmpB_trans hac (by have : cmpB c b ≠ 0 := fun e' => e2 (cmpB_zero.1 e'); omega)
theorem cpt_boards {l : List Spot} {o : List Brd} (h : o.Pairwise (fun a b => cmpB a b ≤ 0)) (hm : ∀ b, b ∈ o ↔ ∃ s ∈ l, brdOf s = b) : cptB o = boardsC l :=
 srtB_same (cpt_srt h) (boards_facts l).1 fun b => by rw [cpt_mem, hm, (boards_facts l).2]
end Go.Proofs.YthkliiifllhacaaGreat

namespace Go.Proofs.YthkliiifllhacaaGreat
open Go Go.RowKit

def Mm (l : List En) (R : Int → Spot → Prop) : Prop := (∀ e ∈ l, R e.2.1 e.1 ∧ R e.2.2.1 e.1) ∧ ∀ n s, R n s → ∃ e ∈ l, e.1 = s ∧ e.2.1 ≤ n ∧ n ≤ e.2.2.1
theorem Mm.iff {l : List En} {R R' : Int → Spot → Prop} (h : Mm l R) (hi : ∀ n s, R n s ↔ R' n s) : Mm l R' := ⟨fun e he => ⟨(hi _ _).1 (h.1 e he).1, (hi _ _).1 (h.1 e he).2⟩, fun n s hr => h.2 n s ((hi _ _).2 hr)⟩
theorem den_none {l : List En} {s : Spot} (h : denC l s = none) : ∀ e ∈ l, e.1 ≠ s := fun e he hs => by
 obtain ⟨v, hv⟩ := den_mem (List.mem_map.2 ⟨e, he, hs⟩)
 rw [hv] at h; cases h
theorem den_mm {l : List En} {s : Spot} {v : Mn} (h : denC l s = some v) : ((∃ e ∈ l, e.1 = s ∧ e.2.1 = v.1) ∧ ∃ e ∈ l, e.1 = s ∧ e.2.2.1 = v.2.1) ∧ ∀ e ∈ l, e.1 = s → v.1 ≤ e.2.1 ∧ e.2.2.1 ≤ v.2.1 := by
 induction l generalizing v with
 | nil => cases h
 | cons e l ih =>
  rw [denC] at h
  by_cases he : e.1 = s
  ·
   rw [if_pos he] at h
   cases hd : denC l s with
   | none =>
    rw [hd] at h
    have hv : e.2 = v := Option.some.inj h
    subst hv
    refine ⟨⟨⟨e, List.mem_cons_self, he, rfl⟩, e, List.mem_cons_self, he, rfl⟩, fun e' he' hs => ?_⟩
    rcases List.mem_cons.1 he' with rfl | hm
    ·
     exact ⟨Int.le_refl _, Int.le_refl _⟩
    ·
     exact absurd hs (den_none hd e' hm)
   | some u =>
    rw [hd] at h
    have hv : joinE e.2 u = v := Option.some.inj h
    subst hv
    obtain ⟨⟨⟨e1, h1, h2, h3⟩, e2, g1, g2, g3⟩, h4⟩ := ih hd
    have hj : (joinE e.2 u).1 = min e.2.1 u.1 := rfl
    have hj2 : (joinE e.2 u).2.1 = max e.2.2.1 u.2.1 := rfl
    rw [hj, hj2]
    refine ⟨⟨?_, ?_⟩, fun e' he' hs => ?_⟩
    ·
     by_cases hle : e.2.1 ≤ u.1
     ·
      exact ⟨e, List.mem_cons_self, he, by omega⟩
     ·
      exact ⟨e1, List.mem_cons_of_mem _ h1, h2, by omega⟩
    ·
     by_cases hle : u.2.1 ≤ e.2.2.1
     ·
      exact ⟨e, List.mem_cons_self, he, by omega⟩
     ·
      exact ⟨e2, List.mem_cons_of_mem _ g1, g2, by omega⟩
    ·
     rcases List.mem_cons.1 he' with rfl | hm
     ·
      omega
     ·
      have := h4 e' hm hs; omega
  ·
   rw [if_neg he] at h
   obtain ⟨⟨⟨e1, h1, h2, h3⟩, e2, g1, g2, g3⟩, h4⟩ := ih h
   refine ⟨⟨⟨e1, List.mem_cons_of_mem _ h1, h2, h3⟩, e2, List.mem_cons_of_mem _ g1, g2, g3⟩, fun e' he' hs => ?_⟩
   rcases List.mem_cons.1 he' with rfl | hm
   ·
    exact absurd hs he
   ·
    exact h4 e' hm hs
theorem Mm.norm {l : List En} {R : Int → Spot → Prop} (h : Mm l R) : Mm (normC l) R := by
 refine ⟨fun e he => ?_, fun n s hr => ?_⟩
 ·
  have := (mem_get (norm_nodup l) e).1 he
  rw [get_norm] at this
  obtain ⟨⟨⟨e1, h1, h2, h3⟩, e2, g1, g2, g3⟩, _⟩ := den_mm this
  have r1 := (h.1 e1 h1).1
  have r2 := (h.1 e2 g1).2
  rw [h2, h3] at r1
  rw [g2, g3] at r2
  exact ⟨r1, r2⟩
 ·
  obtain ⟨e, he, hs, hn⟩ := h.2 n s hr
  obtain ⟨v, hv⟩ := den_mem (List.mem_map.2 ⟨e, he, hs⟩)
  have h4 := (den_mm hv).2 e he hs
  exact ⟨(s, v), (mem_get (norm_nodup l) (s, v)).2 (by rw [get_norm]; exact hv), rfl, by show v.1 ≤ n; omega, by show n ≤ v.2.1; omega⟩
theorem Mm.app {l l' : List En} {R R' : Int → Spot → Prop} (h : Mm l R) (h' : Mm l' R') : Mm (l ++ l') (fun n s => R n s ∨ R' n s) := by
 refine ⟨fun e he => ?_, fun n s hr => ?_⟩
 ·
  rcases List.mem_append.1 he with he | he
  ·
   exact ⟨.inl (h.1 e he).1, .inl (h.1 e he).2⟩
  ·
   exact ⟨.inr (h'.1 e he).1, .inr (h'.1 e he).2⟩
 ·
  rcases hr with hr | hr
  ·
   obtain ⟨e, he, h2⟩ := h.2 n s hr
   exact ⟨e, List.mem_append_left _ he, h2⟩
  ·
   obtain ⟨e, he, h2⟩ := h'.2 n s hr
   exact ⟨e, List.mem_append_right _ he, h2⟩
theorem Mm.step {f : Fmt} {l : List En} {R : Int → Spot → Prop} (side : Int) (h : Mm l R) : Mm (stepC f l side) (fun n s => ∃ t, R (n - 1) t ∧ Pt f side t s) := by
 refine Mm.norm ⟨fun u hu => ?_, fun n s hr => ?_⟩
 ·
  obtain ⟨e, he, hu⟩ := List.mem_flatMap.1 hu
  have key : ∀ p : Int, (p = 0 ∨ p = 1) → u ∈ goE f side e p → (∃ t, R (u.2.1 - 1) t ∧ Pt f side t u.1) ∧ ∃ t, R (u.2.2.1 - 1) t ∧ Pt f side t u.1 := fun p hp hu => by
   obtain ⟨h1, h2, h3⟩ := go_out.1 hu
   have e1 : u.2.1 - 1 = e.2.1 := by rw [h3]; show e.2.1 + 1 - 1 = _; omega
   have e2 : u.2.2.1 - 1 = e.2.2.1 := by rw [h3]; show e.2.2.1 + 1 - 1 = _; omega
   exact ⟨⟨e.1, by rw [e1]; exact (h.1 e he).1, p, hp, h1, h2⟩, e.1, by rw [e2]; exact (h.1 e he).2, p, hp, h1, h2⟩
  rcases List.mem_append.1 hu with hu | hu
  ·
   exact key 0 (.inl rfl) hu
  ·
   exact key 1 (.inr rfl) hu
 ·
  obtain ⟨t, ht, p, hp, hsd, hn⟩ := hr
  obtain ⟨e, he, rfl, hle⟩ := h.2 (n - 1) t ht
  refine ⟨upE e s, List.mem_flatMap.2 ⟨e, he, ?_⟩, rfl, by show e.2.1 + 1 ≤ n; omega, by show n ≤ e.2.2.1 + 1; omega⟩
  rcases hp with rfl | rfl
  ·
   exact List.mem_append_left _ (go_out.2 ⟨hsd, hn, rfl⟩)
  ·
   exact List.mem_append_right _ (go_out.2 ⟨hsd, hn, rfl⟩)
theorem Mm.iter {f : Fmt} {l : List En} {R : Int → Spot → Prop} (h : Mm l R) : ∀ k : Nat, Mm (iterC f l k) (fun n s => ∃ t, R (n - (k : Int)) t ∧ Pts f t k s)
 | 0 => h.iff fun n s => ⟨fun hr => ⟨s, by rw [show n - ((0 : Nat) : Int) = n by omega]; exact hr, rfl⟩, fun ⟨t, hr, ht⟩ => by cases ht; rw [show n - ((0 : Nat) : Int) = n by omega] at hr; exact hr⟩
 | k + 1 => ((h.iter k).step (-1)).iff fun n s => ⟨fun ⟨u, ⟨t, hr, hp⟩, h2⟩ => ⟨t, by rw [show n - ((k + 1 : Nat) : Int) = n - 1 - (k : Int) by omega]; exact hr, u, hp, h2⟩, fun ⟨t, hr, u, hp, h2⟩ => ⟨u, ⟨t, by rw [show n - 1 - (k : Int) = n - ((k + 1 : Nat) : Int) by omega]; exact hr, hp⟩, h2⟩⟩
theorem Mm.nil : Mm [] (fun _ _ => False) := ⟨fun e he => (by cases he), fun n s h => h.elim⟩
theorem Mm.missI {f : Fmt} {l : List En} {R : Int → Spot → Prop} (a : Int) (h : Mm l R) : ∀ n, Mm (missI f l a n) (fun m s => ∃ t, ∃ k : Nat, k < n ∧ a ≤ (k : Int) ∧ R (m - (k : Int)) t ∧ Pts f t k s)
 | 0 => Mm.nil.iff fun m s => ⟨fun h => h.elim, fun ⟨t, k, hk, _⟩ => by omega⟩
 | n + 1 => by
  unfold Go.Proofs.YthkliiifllhacaaGreat.missI
  by_cases ha : a ≤ (n : Int)
  ·
   rw [if_pos ha]
   refine ((h.missI a n).app (h.iter (f := f) n)).iff fun m s => ⟨?_, ?_⟩
   ·
    rintro (⟨t, k, hk, h2⟩ | ⟨t, hr, hp⟩)
    ·
     exact ⟨t, k, by omega, h2⟩
    ·
     exact ⟨t, n, by omega, ha, hr, hp⟩
   ·
    rintro ⟨t, k, hk, h2, h3, h4⟩
    by_cases e : k = n
    ·
     subst e; exact .inr ⟨t, h3, h4⟩
    ·
     exact .inl ⟨t, k, by omega, h2, h3, h4⟩
  ·
   rw [if_neg ha, List.append_nil]
   refine (h.missI a n).iff fun m s => ⟨?_, ?_⟩
   ·
    rintro ⟨t, k, hk, h2⟩
    exact ⟨t, k, by omega, h2⟩
   ·
    rintro ⟨t, k, hk, h2, h3⟩
    exact ⟨t, k, by by_cases e : k = n; (subst e; exact absurd h2 ha); omega, h2, h3⟩
def RelN (f : Fmt) (x : Nt) (t s : Spot) (k : Int) : Prop :=
 if x.kind = 1 then k = 1 ∧ Pt f x.side t s else if x.kind = 2 then ∃ j : Nat, k = (j : Int) ∧ j ≤ x.pair.2.toNat ∧ x.pair.1 ≤ (j : Int) ∧ Pts f t j s else k = 0 ∧ t = s ∧ holdS f x s = true
theorem Mm.after {f : Fmt} {l : List En} {R : Int → Spot → Prop} (x : Nt) (h : Mm l R) : Mm (afterC f l x) (fun n s => ∃ t k, R (n - k) t ∧ RelN f x t s k) := by
 unfold afterC
 by_cases h1 : x.kind = 1
 ·
  rw [if_pos h1]
  refine (h.step x.side).iff fun n s => ?_
  unfold RelN; simp only [if_pos h1]
  exact ⟨fun ⟨t, hr, hp⟩ => ⟨t, 1, hr, rfl, hp⟩, fun ⟨t, k, hr, hk, hp⟩ => by subst hk; exact ⟨t, hr, hp⟩⟩
 ·
  rw [if_neg h1]
  by_cases h2 : x.kind = 2
  ·
   rw [if_pos h2]
   refine (h.missI (f := f) x.pair.1 (x.pair.2.toNat + 1)).norm.iff fun n s => ?_
   unfold RelN; simp only [if_neg h1, if_pos h2]
   constructor
   ·
    rintro ⟨t, k, hk, ha, hr, hp⟩; exact ⟨t, k, hr, k, rfl, by omega, ha, hp⟩
   ·
    rintro ⟨t, k, hr, j, rfl, hk, ha, hp⟩; exact ⟨t, j, by omega, ha, hr, hp⟩
  ·
   rw [if_neg h2]
   unfold RelN; simp only [if_neg h1, if_neg h2]
   refine ⟨fun e he => ?_, fun n s hr => ?_⟩
   ·
    obtain ⟨h3, h4⟩ := List.mem_filter.1 he
    exact ⟨⟨e.1, 0, by rw [Int.sub_zero]; exact (h.1 e h3).1, rfl, rfl, h4⟩, e.1, 0, by rw [Int.sub_zero]; exact (h.1 e h3).2, rfl, rfl, h4⟩
   ·
    obtain ⟨t, k, ht, rfl, rfl, hh⟩ := hr
    rw [Int.sub_zero] at ht
    obtain ⟨e, he, rfl, hle⟩ := h.2 n t ht
    exact ⟨e, List.mem_filter.2 ⟨he, hh⟩, rfl, hle⟩
def Len (f : Fmt) (first : Int) (xs : List Nt) : Nat → Int → Spot → Prop
 | 0, n, s => n = 0 ∧ s ∈ keyC (begC first)
 | j + 1, n, s => ∃ x t k, xs[j]? = some x ∧ Len f first xs j (n - k) t ∧ RelN f x t s k
theorem crowd_mm (f : Fmt) (first : Int) (xs : List Nt) : ∀ j, j ≤ xs.length → Mm (crowdC f first (xs.take j)) (Len f first xs j)
 | 0, _ => by
  have hz : ∀ e ∈ begC first, e.2.1 = 0 ∧ e.2.2.1 = 0 := fun e he => by
   rcases List.mem_append.1 he with he | he
   ·
    by_cases h : first = -1 ∨ first = 0
    ·
     rw [if_pos h, List.mem_singleton] at he; rw [he]; exact ⟨rfl, rfl⟩
    ·
     rw [if_neg h] at he; cases he
   ·
    by_cases h : first = -1 ∨ first = 1
    ·
     rw [if_pos h, List.mem_singleton] at he; rw [he]; exact ⟨rfl, rfl⟩
    ·
     rw [if_neg h] at he; cases he
  refine ⟨fun e he => ⟨⟨(hz e he).1, List.mem_map.2 ⟨e, he, rfl⟩⟩, (hz e he).2, List.mem_map.2 ⟨e, he, rfl⟩⟩, fun n s ⟨hn, hs⟩ => ?_⟩
  obtain ⟨e, he, rfl⟩ := List.mem_map.1 hs
  have := hz e he
  exact ⟨e, he, rfl, by omega, by omega⟩
 | j + 1, hj => by
  obtain ⟨x, hx⟩ : ∃ x, xs[j]? = some x := ⟨_, List.getElem?_eq_getElem (by omega)⟩
  rw [crowd_succ f first hx]
  refine ((crowd_mm f first xs j (by omega)).after x).iff fun n s => ⟨?_, ?_⟩
  ·
   rintro ⟨t, k, hr, h⟩; exact ⟨x, t, k, hx, hr, h⟩
  ·
   rintro ⟨y, t, k, hy, hr, h⟩
   rw [hx] at hy; cases hy
   exact ⟨t, k, hr, h⟩
end Go.Proofs.YthkliiifllhacaaGreat

namespace Go.Proofs.YthkliiifllhacaaGreat
open Go Go.RowKit

def spS (f : Fmt) (first : Int) (ps : List Int) : Nat → Spot
 | 0 => ⟨first, [], (0, 0), (0, 0)⟩
 | n + 1 => match ps[n]? with
  | some p => stepS f (spS f first ps n) p
  | none => spS f first ps n
theorem spS_succ {f : Fmt} {first : Int} {ps : List Int} {n : Nat} {p : Int} (h : ps[n]? = some p) : spS f first ps (n + 1) = stepS f (spS f first ps n) p := by rw [spS, h]
def CanP (f : Fmt) (first : Int) (ps : List Int) : Prop := ∀ (n : Nat) (p : Int), ps[n]? = some p → (p = 0 ∨ p = 1) ∧ topS (spS f first ps n) ≠ f.sets
theorem can_nxt {f : Fmt} {first : Int} {ps : List Int} (h : CanP f first ps) {n : Nat} {p : Int} (hp : ps[n]? = some p) : nxtS f (spS f first ps n) p = some (spS f first ps (n + 1)) := by
 rw [nxtS, decide_eq_false (h n p hp).2, cond_false, spS_succ hp]
theorem play_spot {f : Fmt} {first : Int} {ps : List Int} (hf : f.Ok) : ∀ {k : Nat} {m : MS}, playTo f first ps k = some m → spotOf m = spS f first ps k ∧ ∀ (n : Nat) (p : Int), n < k → ps[n]? = some p → (p = 0 ∨ p = 1) ∧ topS (spS f first ps n) ≠ f.sets
 | 0, m, h => by
  simp only [playTo, Option.some.injEq] at h
  subst h
  exact ⟨begin_spot f first, fun n p hn => by omega⟩
 | k + 1, m, h => by
  rw [playTo] at h
  cases h1 : playTo f first ps k with
  | none => rw [h1] at h; cases h
  | some m0 =>
   cases h2 : ps[k]? with
   | none => rw [h1, h2] at h; cases h
   | some s =>
    rw [h1, h2] at h
    dsimp only at h
    obtain ⟨ih1, ih2⟩ := play_spot hf h1
    have hr := playTo_rch hf h1
    have hmf := (playTo_inv hf h1).1
    cases hb : sideBad s || decide (0 ≤ m0.winner)
    ·
     rw [hb] at h
     obtain rfl := Option.some.inj h
     simp only [Bool.or_eq_false_iff, decide_eq_false_iff_not] at hb
     have hs : s = 0 ∨ s = 1 := by
      have := hb.1
      unfold sideBad at this
      simp only [Bool.and_eq_false_iff, Bool.not_eq_false', decide_eq_true_eq] at this
      omega
     rcases hr.inv with hi | ⟨hd, _⟩
     ·
      have hst := (spot_step (hmf ▸ hf) hi hr.cnt hs).1
      have ht := inv_top hi
      rw [nxtS, ht, cond_false, hmf, ih1] at hst
      rw [hmf, ih1] at ht
      refine ⟨by rw [spS_succ h2]; exact (Option.some.inj hst).symm, fun n p hn hp => ?_⟩
      by_cases e : n = k
      ·
       subst e
       rw [h2] at hp; cases hp
       exact ⟨hs, of_decide_eq_false ht⟩
      ·
       exact ih2 n p (by omega) hp
     ·
      have := hd.w; omega
    ·
     rw [hb] at h; cases h
theorem play_can {f : Fmt} {first : Int} {ps : List Int} (hf : f.Ok) {m : MS} (h : playTo f first ps ps.length = some m) : CanP f first ps ∧ spotOf m = spS f first ps ps.length := by
 obtain ⟨h1, h2⟩ := play_spot hf h
 exact ⟨fun n p hp => h2 n p (List.getElem?_eq_some_iff.1 hp).1 hp, h1⟩
def hitV (f : Fmt) (first : Int) (ps : List Int) (x : Nt) (m n : Nat) : Prop :=
 if x.kind = 1 then n = m + 1 ∧ n ≤ ps.length ∧ (x.side = -1 ∨ ps[m]? = some x.side) else if x.kind = 2 then ((m : Int) + x.pair.1 ≤ n ∧ (n : Int) ≤ m + x.pair.2) ∧ m ≤ n ∧ n ≤ ps.length else n = m ∧ holdS f x (spS f first ps n) = true
def Fit (f : Fmt) (first : Int) (ps : List Int) (xs : List Nt) : Nat → Nat → Prop
 | 0, n => n = 0
 | j + 1, n => ∃ x m, xs[j]? = some x ∧ Fit f first ps xs j m ∧ hitV f first ps x m n
theorem pts_sp {f : Fmt} {first : Int} {ps : List Int} (h : CanP f first ps) (m : Nat) : ∀ k, m + k ≤ ps.length → Pts f (spS f first ps m) k (spS f first ps (m + k))
 | 0, _ => rfl
 | k + 1, hk => by
  obtain ⟨p, hp⟩ : ∃ p, ps[m + k]? = some p := ⟨_, List.getElem?_eq_getElem (by omega)⟩
  exact ⟨_, pts_sp h m k (by omega), p, (h _ p hp).1, .inl rfl, can_nxt h hp⟩
theorem fit_len {f : Fmt} {cf first : Int} {ps : List Int} {xs : List Nt} (hc : CanP f first ps) (hb : (⟨first, [], (0, 0), (0, 0)⟩ : Spot) ∈ keyC (begC cf)) : ∀ {j n : Nat}, Fit f first ps xs j n → n ≤ ps.length ∧ Len f cf xs j n (spS f first ps n)
 | 0, n, h => by
  obtain rfl : n = 0 := h
  exact ⟨Nat.zero_le _, rfl, hb⟩
 | j + 1, n, h => by
  obtain ⟨x, m, hx, hm, hh⟩ := h
  obtain ⟨hml, hl⟩ := fit_len hc hb hm
  unfold hitV at hh
  by_cases h1 : x.kind = 1
  ·
   rw [if_pos h1] at hh
   obtain ⟨rfl, hn, hs⟩ := hh
   obtain ⟨p, hp⟩ : ∃ p, ps[m]? = some p := ⟨_, List.getElem?_eq_getElem (by omega)⟩
   refine ⟨hn, x, _, 1, hx, by rw [show ((m + 1 : Nat) : Int) - 1 = (m : Int) by omega]; exact hl, ?_⟩
   unfold RelN; rw [if_pos h1]
   refine ⟨rfl, p, (hc m p hp).1, hs.imp id fun e => ?_, can_nxt hc hp⟩
   rw [hp] at e; exact (Option.some.inj e).symm
  ·
   rw [if_neg h1] at hh
   by_cases h2 : x.kind = 2
   ·
    rw [if_pos h2] at hh
    obtain ⟨⟨ha, hbb⟩, hmn, hn⟩ := hh
    refine ⟨hn, x, _, ((n - m : Nat) : Int), hx, by rw [show (n : Int) - ((n - m : Nat) : Int) = (m : Int) by omega]; exact hl, ?_⟩
    unfold RelN; rw [if_neg h1, if_pos h2]
    refine ⟨n - m, rfl, by omega, by omega, ?_⟩
    have := pts_sp hc m (n - m) (by omega)
    rwa [show m + (n - m) = n by omega] at this
   ·
    rw [if_neg h2] at hh
    obtain ⟨rfl, hh⟩ := hh
    refine ⟨hml, x, _, 0, hx, by rw [Int.sub_zero]; exact hl, ?_⟩
    unfold RelN; rw [if_neg h1, if_neg h2]
    exact ⟨rfl, rfl, hh⟩
theorem true_match {f : Fmt} {cf first : Int} {ps : List Int} {xs : List Nt} (hc : CanP f first ps) (hb : (⟨first, [], (0, 0), (0, 0)⟩ : Spot) ∈ keyC (begC cf)) (h : Fit f first ps xs xs.length ps.length) : ∃ e ∈ crowdC f cf xs, e.1 = spS f first ps ps.length ∧ e.2.1 ≤ ps.length ∧ (ps.length : Int) ≤ e.2.2.1 := by
 have hl := (fit_len hc hb h).2
 have := (crowd_mm f cf xs xs.length (Nat.le_refl _)).2 _ _ hl
 rwa [List.take_length] at this
end Go.Proofs.YthkliiifllhacaaGreat

namespace Go.Proofs.YthkliiifllhacaaGreat
open Go Go.RowKit

section
variable {f : Fmt} {s : Spot}
end
end Go.Proofs.YthkliiifllhacaaGreat

namespace Go.Proofs.YthkliiifllhacaaGreat
open Go Go.RowKit

structure Nt.Ok (x : Nt) : Prop where
 k : 1 ≤ x.kind ∧ x.kind ≤ 7
 s1 : x.kind = 1 → x.side = -1 ∨ x.side = 0 ∨ x.side = 1
 s6 : x.kind = 6 ∨ x.kind = 7 → x.side = 0 ∨ x.side = 1
section
variable {f : Fmt} {s : Spot}
end
theorem beg_in {first b : Int} (hb : b = 0 ∨ b = 1) (h : first = -1 ∨ first = b) : (⟨b, [], (0, 0), (0, 0)⟩ : Spot) ∈ keyC (begC first) := by
 unfold keyC begC
 rw [List.map_append, List.mem_append]
 rcases hb with rfl | rfl
 ·
  exact .inl (by rw [if_pos h]; exact List.mem_cons_self)
 ·
  exact .inr (by rw [if_pos h]; exact List.mem_cons_self)
end Go.Proofs.YthkliiifllhacaaGreat

namespace Go.Proofs.YthkliiifllhacaaGreat
open Go Go.RowKit

def fstC (p : Nat → Bool) (n : Nat) : Int := match (List.range n).find? p with
 | some k => k
 | none => -1
theorem fstC_spec (p : Nat → Bool) (n : Nat) : (fstC p n = -1 ∧ ∀ i, i < n → p i = false) ∨ ∃ k : Nat, k < n ∧ fstC p n = k ∧ p k = true ∧ ∀ i, i < k → p i = false := by
 unfold fstC
 cases h : (List.range n).find? p with
 | none =>
  refine .inl ⟨rfl, fun i hi => ?_⟩
  have := List.find?_range_eq_none.1 h i hi
  simpa using this
 | some k =>
  obtain ⟨h1, h2, h3⟩ := List.find?_range_eq_some.1 h
  refine .inr ⟨k, List.mem_range.1 h2, rfl, h1, fun i hi => ?_⟩
  have := h3 i hi
  simpa using this
def badC (f : Fmt) (first : Int) (xs : List Nt) : Int := fstC (fun i => (crowdC f first (xs.take (i + 1))).isEmpty) xs.length
theorem after_nil (f : Fmt) (x : Nt) : afterC f [] x = [] := by
 have : keyC (afterC f [] x) = [] := List.eq_nil_iff_forall_not_mem.2 fun s hs => by
  obtain ⟨t, ht, _⟩ := after_mem.1 hs
  cases ht
 exact List.map_eq_nil_iff.1 this
theorem fold_nil (f : Fmt) (xs : List Nt) : xs.foldl (afterC f) [] = [] := by
 induction xs with
 | nil => rfl
 | cons x xs ih => rw [List.foldl_cons, after_nil, ih]
theorem crowd_nil {f : Fmt} {first : Int} {xs : List Nt} {i : Nat} (h : crowdC f first (xs.take i) = []) : crowdC f first xs = [] := by
 have : xs = xs.take i ++ xs.drop i := (List.take_append_drop i xs).symm
 rw [this]
 unfold crowdC at h ⊢
 rw [List.foldl_append, h, fold_nil]
theorem beg_ne {first : Int} (h : -1 ≤ first ∧ first ≤ 1) : begC first ≠ [] := fun e => by
 have : (⟨if first = 1 then 1 else 0, [], (0, 0), (0, 0)⟩ : Spot) ∈ keyC (begC first) := by
  by_cases h1 : first = 1
  ·
   rw [if_pos h1]; exact beg_in (.inr rfl) (.inr h1)
  ·
   rw [if_neg h1]; exact beg_in (.inl rfl) (by omega)
 rw [e] at this; cases this
theorem bad_none {f : Fmt} {first : Int} {xs : List Nt} (h : -1 ≤ first ∧ first ≤ 1) : badC f first xs = -1 ↔ crowdC f first xs ≠ [] := by
 unfold badC
 rcases fstC_spec (fun i => (crowdC f first (xs.take (i + 1))).isEmpty) xs.length with ⟨h1, h2⟩ | ⟨k, hk, h1, h2, _⟩
 ·
  rw [h1]
  refine ⟨fun _ e => ?_, fun _ => rfl⟩
  cases hl : xs.length with
  | zero =>
   have : xs = [] := List.eq_nil_of_length_eq_zero hl
   subst this
   exact beg_ne h e
  | succ n =>
   have := h2 n (by omega)
   rw [show n + 1 = xs.length from hl.symm, List.take_length, e] at this
   cases this
 ·
  rw [h1]
  refine ⟨fun e => by omega, fun hne => ?_⟩
  exact absurd (crowd_nil (i := k + 1) (List.isEmpty_iff.1 h2)) hne
end Go.Proofs.YthkliiifllhacaaGreat

namespace Go.Proofs.YthkliiifllhacaaGreat
open Go Go.RowKit

end Go.Proofs.YthkliiifllhacaaGreat

namespace Go.Proofs.YthkliiifllhacaaGreat
open Go Go.RowKit

def mostN (x : Nt) : Int := if x.kind = 1 then 1 else if x.kind = 2 then x.pair.2 else 0
def mostS (xs : List Nt) : Int := (xs.map mostN).sum
end Go.Proofs.YthkliiifllhacaaGreat

namespace Go.Proofs.YthkliiifllhacaaGreat
open Go Go.RowKit

theorem spS_app {f : Fmt} {first : Int} {ps qs : List Int} : ∀ {n : Nat}, n ≤ ps.length → spS f first (ps ++ qs) n = spS f first ps n
 | 0, _ => rfl
 | n + 1, h => by
  rw [spS, spS, List.getElem?_append_left (by omega), spS_app (by omega)]
theorem spS_last {f : Fmt} {first : Int} {ps : List Int} {p : Int} : spS f first (ps ++ [p]) (ps.length + 1) = stepS f (spS f first ps ps.length) p := by
 rw [spS_succ (p := p) (by rw [List.getElem?_append_right (Nat.le_refl _), Nat.sub_self]; rfl), spS_app (Nat.le_refl _)]
theorem can_app {f : Fmt} {first : Int} {ps : List Int} {p : Int} (h : CanP f first ps) (hp : p = 0 ∨ p = 1) {u : Spot} (hn : nxtS f (spS f first ps ps.length) p = some u) : CanP f first (ps ++ [p]) ∧ spS f first (ps ++ [p]) (ps ++ [p]).length = u := by
 have ht : topS (spS f first ps ps.length) ≠ f.sets := fun e => by
  rw [nxtS, decide_eq_true e] at hn; cases hn
 have hu : stepS f (spS f first ps ps.length) p = u := by
  rw [nxtS, decide_eq_false ht] at hn; exact Option.some.inj hn
 refine ⟨fun n q hq => ?_, by rw [List.length_append, List.length_singleton, spS_last, hu]⟩
 have hlt : n < ps.length + 1 := by
  have := (List.getElem?_eq_some_iff.1 hq).1
  rwa [List.length_append, List.length_singleton] at this
 by_cases e : n = ps.length
 ·
  subst e
  rw [List.getElem?_append_right (Nat.le_refl _), Nat.sub_self] at hq
  obtain rfl : p = q := Option.some.inj hq
  exact ⟨hp, by rw [spS_app (Nat.le_refl _)]; exact ht⟩
 ·
  rw [List.getElem?_append_left (by omega)] at hq
  rw [spS_app (by omega)]
  exact h n q hq
theorem fit_app {f : Fmt} {first : Int} {ps qs : List Int} {xs : List Nt} : ∀ {j n : Nat}, Fit f first ps xs j n → n ≤ ps.length ∧ Fit f first (ps ++ qs) xs j n
 | 0, n, h => ⟨by have : n = 0 := h; omega, h⟩
 | j + 1, n, ⟨x, m, hx, hm, hh⟩ => by
  obtain ⟨g1, g2⟩ := fit_app (qs := qs) hm
  unfold hitV at hh
  by_cases h1 : x.kind = 1
  ·
   rw [if_pos h1] at hh
   obtain ⟨h2, h3, h4⟩ := hh
   refine ⟨h3, x, m, hx, g2, ?_⟩
   unfold hitV
   rw [if_pos h1]
   refine ⟨h2, by rw [List.length_append]; omega, h4.imp id fun e => ?_⟩
   rw [List.getElem?_append_left (by omega)]; exact e
  ·
   rw [if_neg h1] at hh
   by_cases h2 : x.kind = 2
   ·
    rw [if_pos h2] at hh
    obtain ⟨h3, h4, h5⟩ := hh
    refine ⟨h5, x, m, hx, g2, ?_⟩
    unfold hitV
    rw [if_neg h1, if_pos h2]
    exact ⟨h3, h4, by rw [List.length_append]; omega⟩
   ·
    rw [if_neg h2] at hh
    obtain ⟨rfl, h3⟩ := hh
    refine ⟨g1, x, n, hx, g2, ?_⟩
    unfold hitV
    rw [if_neg h1, if_neg h2]
    exact ⟨rfl, by rw [spS_app g1]; exact h3⟩
structure Row_ (f : Fmt) (cf : Int) (xs : List Nt) (j : Nat) (s : Spot) (first : Int) (ps : List Int) : Prop where
 fs : first = 0 ∨ first = 1
 cf : cf = -1 ∨ cf = first
 can : CanP f first ps
 fit : Fit f first ps xs j ps.length
 sp : spS f first ps ps.length = s
theorem row_begin {f : Fmt} {cf first : Int} {xs : List Nt} (h1 : first = 0 ∨ first = 1) (h2 : cf = -1 ∨ cf = first) : Row_ f cf xs 0 ⟨first, [], (0, 0), (0, 0)⟩ first [] := ⟨h1, h2, fun n p hp => (by cases hp), rfl, rfl⟩
end Go.Proofs.YthkliiifllhacaaGreat

namespace Go.Proofs.YthkliiifllhacaaGreat
open Go Go.RowKit

abbrev ep (s : Spot) (k : Nat) : Pr := s.st.getD k (0, 0)
abbrev spotC (s : Spot) : List Value := [.int .i64 s.first, .int .i64 (s.st.length : Int), .int .i64 (ep s 0).1, .int .i64 (ep s 0).2, .int .i64 (ep s 1).1, .int .i64 (ep s 1).2, .int .i64 (ep s 2).1, .int .i64 (ep s 2).2, .int .i64 (ep s 3).1, .int .i64 (ep s 3).2, .int .i64 (ep s 4).1, .int .i64 (ep s 4).2, .int .i64 s.g.1, .int .i64 s.g.2, .int .i64 s.p.1, .int .i64 s.p.2]
abbrev spotF (s : Spot) : List Fl := [.i s.first, .i (s.st.length : Int), .i (ep s 0).1, .i (ep s 0).2, .i (ep s 1).1, .i (ep s 1).2, .i (ep s 2).1, .i (ep s 2).2, .i (ep s 3).1, .i (ep s 3).2, .i (ep s 4).1, .i (ep s 4).2, .i s.g.1, .i s.g.2, .i s.p.1, .i s.p.2]
theorem spotF_inj {a b : Spot} (ha : a.st.length ≤ 5) (h : spotF a = spotF b) : a = b := by
 simp only [spotF, List.cons.injEq, Fl.i.injEq, and_true] at h
 obtain ⟨h0, h1, a0, b0, a1, b1, a2, b2, a3, b3, a4, b4, g1, g2, p1, p2⟩ := h
 have hl : a.st.length = b.st.length := by omega
 refine Spot.ext' h0 (List.ext_getElem hl fun k hk hk' => ?_) (Prod.ext g1 g2) (Prod.ext p1 p2)
 have e : ∀ k, k < 5 → ep a k = ep b k := fun k hk => by
  have : k = 0 ∨ k = 1 ∨ k = 2 ∨ k = 3 ∨ k = 4 := by omega
  rcases this with rfl | rfl | rfl | rfl | rfl
  ·
   exact Prod.ext a0 b0
  ·
   exact Prod.ext a1 b1
  ·
   exact Prod.ext a2 b2
  ·
   exact Prod.ext a3 b3
  ·
   exact Prod.ext a4 b4
 have := e k (by omega)
 simp only [ep, List.getD_eq_getElem?_getD, List.getElem?_eq_getElem hk, List.getElem?_eq_getElem hk', Option.getD_some] at this
 exact this

structure Nd where
 (b : Nat) (s : Spot) (bf : Option Nat) (sd : Int)
abbrev bp (b : Nat) : Value := .pointer (some ⟨b, 0, none⟩)
abbrev bpO (o : Option Nat) : Value := .pointer (o.map fun b => ⟨b, 0, none⟩)
abbrev nodeC (x : Nd) (m : Pr) : List Value := [.int .i64 x.s.first, .int .i64 (x.s.st.length : Int), .int .i64 (ep x.s 0).1, .int .i64 (ep x.s 0).2, .int .i64 (ep x.s 1).1, .int .i64 (ep x.s 1).2, .int .i64 (ep x.s 2).1, .int .i64 (ep x.s 2).2, .int .i64 (ep x.s 3).1, .int .i64 (ep x.s 3).2, .int .i64 (ep x.s 4).1, .int .i64 (ep x.s 4).2, .int .i64 x.s.g.1, .int .i64 x.s.g.2, .int .i64 x.s.p.1, .int .i64 x.s.p.2, bpO x.bf, .int .i64 x.sd, .int .i64 m.1, .int .i64 m.2]
def poolE (T : TypeId) (N : List Nd) (mn : Nat → Pr) (out : Option Nat) : Ent := .gen true true (fun k => ∃ x ∈ N, x.b = k ∧ out ≠ some k) (fun w => ∀ x ∈ N, out ≠ some x.b → w.heap[x.b]? = some (.cells (nodeC x (mn x.b)).toArray T (0, 0)))
 (fun w w' hb hok x hx ho => (hb x.b ⟨x, hx, rfl, ho⟩).trans (hok x hx ho)) (fun w k hok ⟨x, hx, he, ho⟩ => by subst he; exact heap_lt (hok x hx ho))
def upN (mn : Nat → Pr) (b : Nat) (v : Pr) : Nat → Pr := fun k => if k = b then v else mn k
theorem upN_same (mn : Nat → Pr) (b : Nat) (v : Pr) : upN mn b v b = v := if_pos rfl
theorem upN_other {mn : Nat → Pr} {b k : Nat} {v : Pr} (h : k ≠ b) : upN mn b v k = mn k := if_neg h
section
variable {w0 w : World} {M : List Ent} {T : TypeId} {N : List Nd} {mn : Nat → Pr}
theorem St.pool0 {L : List Ent} (h : St w0 w L) (T : TypeId) (mn : Nat → Pr) : St w0 w (poolE T [] mn none :: L) := by
 refine St.add (M := [_]) h (Blw.refl _ _) (fun e he => ?_) (fun e he b hb' => ?_) (List.pairwise_singleton _ _)
 ·
  simp only [List.mem_singleton] at he; subst he; exact fun x hx => by cases hx
 ·
  simp only [List.mem_singleton] at he; subst he; obtain ⟨x, hx, _⟩ := hb'; cases hx
theorem St.pOpen (h : St w0 w (poolE T N mn none :: M)) {x : Nd} (hx : x ∈ N) : St w0 w (.blk x.b T (nodeC x (mn x.b)) :: poolE T N mn (some x.b) :: M) := by
 have hok := h.ok (poolE T N mn none) (by simp)
 refine h.split (e1 := .blk x.b T _) rfl (hok x hx (by simp)) (fun y hy _ => hok y hy (by simp)) (fun k hk => ⟨x, hx, (show k = x.b from hk).symm, by simp⟩) (fun k ⟨y, hy, he, _⟩ => ⟨y, hy, he, by simp⟩) (fun k hk ⟨y, hy, he, ho⟩ => ho (by rw [show k = x.b from hk]))
theorem nd_one (hn : (N.map (·.b)).Nodup) {x y : Nd} (hx : x ∈ N) (hy : y ∈ N) (e : x.b = y.b) : x = y := by
 induction N with
 | nil => cases hx
 | cons z N ih =>
  rw [List.map_cons, List.nodup_cons] at hn
  rcases List.mem_cons.1 hx with h1 | h1
  ·
   rcases List.mem_cons.1 hy with h2 | h2
   ·
    rw [h1, h2]
   ·
    exact absurd (List.mem_map.2 ⟨y, h2, by rw [← e, h1]⟩) hn.1
  ·
   rcases List.mem_cons.1 hy with h2 | h2
   ·
    exact absurd (List.mem_map.2 ⟨x, h1, by rw [e, h2]⟩) hn.1
   ·
    exact ih hn.2 h1 h2
theorem St.pClose {x : Nd} {v : Pr} (h : St w0 w (.blk x.b T (nodeC x v) :: poolE T N mn (some x.b) :: M)) (hx : x ∈ N) (hn : (N.map (·.b)).Nodup) : St w0 w (poolE T N (upN mn x.b v) none :: M) := by
 have h1 := h.ok (.blk x.b T (nodeC x v)) (by simp)
 have h2 := h.ok (poolE T N mn (some x.b)) (by simp)
 refine h.fuse (e := poolE T N (upN mn x.b v) none) rfl rfl (fun y hy _ => ?_) (fun k ⟨y, hy, he, _⟩ => ?_)
 ·
  by_cases e : y.b = x.b
  ·
   obtain rfl := nd_one hn hy hx e
   rw [upN_same]; exact h1
  ·
   rw [upN_other e]
   exact h2 y hy (fun e2 => e (Option.some.inj e2).symm)
 ·
  by_cases e : k = x.b
  ·
   exact .inl e
  ·
   exact .inr ⟨y, hy, he, fun e2 => e (Option.some.inj e2).symm⟩
theorem St.pNew {x : Nd} {v : Pr} (h : St w0 w (.blk x.b T (nodeC x v) :: poolE T N mn none :: M)) : (∀ y ∈ N, y.b ≠ x.b) ∧ St w0 w (poolE T (x :: N) (upN mn x.b v) none :: M) := by
 have h1 := h.ok (.blk x.b T (nodeC x v)) (by simp)
 have h2 := h.ok (poolE T N mn none) (by simp)
 have hp := (List.pairwise_cons.1 h.sep).1 (poolE T N mn none) (by simp)
 have hne : ∀ y ∈ N, y.b ≠ x.b := fun y hy e => hp (.inl rfl) x.b rfl ⟨y, hy, e, by simp⟩
 refine ⟨hne, h.fuse (e := poolE T (x :: N) (upN mn x.b v) none) rfl rfl (fun y hy _ => ?_) (fun k ⟨y, hy, he, _⟩ => ?_)⟩
 ·
  rcases List.mem_cons.1 hy with rfl | hy
  ·
   rw [upN_same]; exact h1
  ·
   rw [upN_other (hne y hy)]; exact h2 y hy (by simp)
 ·
  rcases List.mem_cons.1 hy with rfl | hy
  ·
   exact .inl he.symm
  ·
   exact .inr ⟨y, hy, he, by simp⟩
end
section rules
variable {F : Fence} {P : Program} {ops : Array Oper} {Q : Exit → Act → World → Prop} {rest : List Oper} {n : Nat} {D : List Deferred} {l : Env} {w0 : World} {L M M' : List Ent} {c : Code}
variable {T : TypeId} {N : List Nd} {mn : Nat → Pr}
theorem WL.pOpen (ha : At L (poolE T N mn none) M) {x : Nd} (hx : x ∈ N) (h : WL F P ops Q rest n D l w0 (.blk x.b T (nodeC x (mn x.b)) :: poolE T N mn (some x.b) :: M)) : WL F P ops Q rest n D l w0 L := fun hF a w hfr hst => h hF a w hfr ((hst.pull ha).pOpen hx)
theorem WC.pOpen (ha : At L (poolE T N mn none) M) {x : Nd} (hx : x ∈ N) (h : WC F P c Q n D l w0 (.blk x.b T (nodeC x (mn x.b)) :: poolE T N mn (some x.b) :: M)) : WC F P c Q n D l w0 L := fun hF a w hfr hst => h hF a w hfr ((hst.pull ha).pOpen hx)
theorem pull2 {w : World} {e1 e2 : Ent} (ha : At L e1 M) (hb : At M e2 M') (hst : St w0 w L) : St w0 w (e1 :: e2 :: M') := hst.sub (.cons ha (.cons hb (SubL.refl _)))
theorem WL.pClose {x : Nd} (v : Pr) (hx : x ∈ N) (hn : (N.map (·.b)).Nodup) (ha : At L (.blk x.b T (nodeC x v)) M) (hb : At M (poolE T N mn (some x.b)) M') (h : WL F P ops Q rest n D l w0 (poolE T N (upN mn x.b v) none :: M')) : WL F P ops Q rest n D l w0 L := fun hF a w hfr hst => h hF a w hfr ((pull2 ha hb hst).pClose hx hn)
theorem WC.pClose {x : Nd} (v : Pr) (hx : x ∈ N) (hn : (N.map (·.b)).Nodup) (ha : At L (.blk x.b T (nodeC x v)) M) (hb : At M (poolE T N mn (some x.b)) M') (h : WC F P c Q n D l w0 (poolE T N (upN mn x.b v) none :: M')) : WC F P c Q n D l w0 L := fun hF a w hfr hst => h hF a w hfr ((pull2 ha hb hst).pClose hx hn)
theorem WL.pNew (x : Nd) (v : Pr) (ha : At L (.blk x.b T (nodeC x v)) M) (hb : At M (poolE T N mn none) M') (h : (∀ y ∈ N, y.b ≠ x.b) → WL F P ops Q rest n D l w0 (poolE T (x :: N) (upN mn x.b v) none :: M')) : WL F P ops Q rest n D l w0 L := fun hF a w hfr hst => h (pull2 ha hb hst).pNew.1 hF a w hfr (pull2 ha hb hst).pNew.2
theorem WC.pNew (x : Nd) (v : Pr) (ha : At L (.blk x.b T (nodeC x v)) M) (hb : At M (poolE T N mn none) M') (h : (∀ y ∈ N, y.b ≠ x.b) → WC F P c Q n D l w0 (poolE T (x :: N) (upN mn x.b v) none :: M')) : WC F P c Q n D l w0 L := fun hF a w hfr hst => h (pull2 ha hb hst).pNew.1 hF a w hfr (pull2 ha hb hst).pNew.2
theorem WC.pool0 (T : TypeId) (mn : Nat → Pr) (h : WC F P c Q n D l w0 (poolE T [] mn none :: L)) : WC F P c Q n D l w0 L := fun hF a w hfr hst => h hF a w hfr (hst.pool0 T mn)
end rules

inductive RowN (N : List Nd) : Nd → List Int → Prop
 | nil {x : Nd} (h : x.bf = none) : RowN N x []
 | snoc {x y : Nd} {r : List Int} (hy : y ∈ N) (h : x.bf = some y.b) (hr : RowN N y r) : RowN N x (r ++ [x.sd])
theorem RowN.mono {N N' : List Nd} {x : Nd} {r : List Int} (h : RowN N x r) (hs : ∀ y ∈ N, y ∈ N') : RowN N' x r := by
 induction h with
 | nil h => exact .nil h
 | snoc hy h _ ih => exact .snoc (hs _ hy) h ih
theorem RowN.uniq {N : List Nd} (hn : (N.map (·.b)).Nodup) {x : Nd} {r r' : List Int} (h : RowN N x r) (h' : RowN N x r') : r = r' := by
 induction h generalizing r' with
 | nil h =>
  cases h' with
  | nil => rfl
  | snoc _ h2 _ => rw [h] at h2; cases h2
 | snoc hy h _ ih =>
  cases h' with
  | nil h2 => rw [h] at h2; cases h2
  | snoc hy' h2 hr' =>
   rw [h] at h2
   obtain rfl := nd_one hn hy hy' (Option.some.inj h2)
   rw [ih hr']
theorem RowN.copy {N : List Nd} {x y : Nd} {r : List Int} (h : RowN N x r) (h1 : y.bf = x.bf) (h2 : y.sd = x.sd) : RowN N y r := by
 cases h with
 | nil h => exact .nil (h1.trans h)
 | snoc hy h hr => rw [← h2]; exact .snoc hy (h1.trans h) hr
structure NdOk (f : Fmt) (N : List Nd) (mn : Nat → Pr) (K : Int) (x : Nd) : Prop where
 fs : x.s.first = 0 ∨ x.s.first = 1
 row : ∃ r, RowN N x r ∧ (r.length : Int) ≤ K ∧ CanP f x.s.first r ∧ spS f x.s.first r r.length = x.s
 lo : 0 ≤ (mn x.b).1 ∧ (mn x.b).1 ≤ K
 hi : 0 ≤ (mn x.b).2 ∧ (mn x.b).2 ≤ K
structure PoolOk (f : Fmt) (N : List Nd) (mn : Nat → Pr) (K : Int) : Prop where
 nd : (N.map (·.b)).Nodup
 ok : ∀ x ∈ N, NdOk f N mn K x
theorem PoolOk.nil (f : Fmt) (mn : Nat → Pr) (K : Int) : PoolOk f [] mn K := ⟨List.nodup_nil, fun x hx => by cases hx⟩
theorem PoolOk.up {f : Fmt} {N : List Nd} {mn : Nat → Pr} {K K' : Int} (h : PoolOk f N mn K) (hk : K ≤ K') : PoolOk f N mn K' := ⟨h.nd, fun x hx => by
 obtain ⟨h1, ⟨r, h2, h3, h4⟩, h5, h6⟩ := h.ok x hx
 exact ⟨h1, ⟨r, h2, by omega, h4⟩, by omega, by omega⟩⟩
theorem PoolOk.add {f : Fmt} {N : List Nd} {mn : Nat → Pr} {K : Int} (h : PoolOk f N mn K) {x : Nd} {v : Pr} (hne : ∀ y ∈ N, y.b ≠ x.b) (hf : x.s.first = 0 ∨ x.s.first = 1) (hr : ∃ r, RowN N x r ∧ (r.length : Int) ≤ K ∧ CanP f x.s.first r ∧ spS f x.s.first r r.length = x.s) (h1 : 0 ≤ v.1 ∧ v.1 ≤ K) (h2 : 0 ≤ v.2 ∧ v.2 ≤ K) : PoolOk f (x :: N) (upN mn x.b v) K := by
 refine ⟨?_, fun y hy => ?_⟩
 ·
  rw [List.map_cons, List.nodup_cons]
  refine ⟨fun hm => ?_, h.nd⟩
  obtain ⟨y, hy, e⟩ := List.mem_map.1 hm
  exact hne y hy e
 ·
  have hs : ∀ z ∈ N, z ∈ x :: N := fun z hz => List.mem_cons_of_mem _ hz
  rcases List.mem_cons.1 hy with rfl | hy
  ·
   obtain ⟨r, h3, h4⟩ := hr
   exact ⟨hf, ⟨r, h3.mono hs, h4⟩, by rw [upN_same]; exact h1, by rw [upN_same]; exact h2⟩
  ·
   obtain ⟨g1, ⟨r, g2, g3⟩, g4, g5⟩ := h.ok y hy
   exact ⟨g1, ⟨r, g2.mono hs, g3⟩, by rw [upN_other (hne y hy)]; exact g4, by rw [upN_other (hne y hy)]; exact g5⟩
theorem PoolOk.set {f : Fmt} {N : List Nd} {mn : Nat → Pr} {K : Int} (h : PoolOk f N mn K) (b : Nat) {v : Pr} (h1 : 0 ≤ v.1 ∧ v.1 ≤ K) (h2 : 0 ≤ v.2 ∧ v.2 ≤ K) : PoolOk f N (upN mn b v) K := ⟨h.nd, fun y hy => by
 obtain ⟨g1, g2, g4, g5⟩ := h.ok y hy
 refine ⟨g1, g2, ?_, ?_⟩
 ·
  unfold upN; split
  ·
   exact h1
  ·
   exact g4
 ·
  unfold upN; split
  ·
   exact h2
  ·
   exact g5⟩

theorem won_sum (l : List Pr) : (wonV l).1 + (wonV l).2 = l.length ∧ 0 ≤ (wonV l).1 ∧ 0 ≤ (wonV l).2 := by
 have key : ∀ k, k ≤ l.length → (wonTo l k).1 + (wonTo l k).2 = (k : Int) := fun k => by
  induction k with
  | zero => exact fun _ => rfl
  | succ k ih =>
   intro hk
   rw [wonTo_succ (List.getElem?_eq_getElem (by omega)), add_sum, ih (by omega)]; rfl
 have hb := wonTo_bd l l.length
 exact ⟨key _ (Nat.le_refl _), hb.1.1, hb.2.1⟩
structure SpBd (f : Fmt) (s : Spot) (n : Int) : Prop where
 g : (0 ≤ s.g.1 ∧ s.g.1 ≤ n) ∧ 0 ≤ s.g.2 ∧ s.g.2 ≤ n
 p : (0 ≤ s.p.1 ∧ s.p.1 ≤ n) ∧ 0 ≤ s.p.2 ∧ s.p.2 ≤ n
 won : (wonV s.st).1 ≤ f.sets ∧ (wonV s.st).2 ≤ f.sets ∧ (wonV s.st).1 + (wonV s.st).2 ≤ 2 * f.sets - 1
 st : ∀ q ∈ s.st, (0 ≤ q.1 ∧ q.1 ≤ n) ∧ 0 ≤ q.2 ∧ q.2 ≤ n
theorem SpBd.len {f : Fmt} {s : Spot} {n : Int} (hf : f.Ok) (h : SpBd f s n) : s.st.length ≤ 5 := by
 have h1 := (won_sum s.st).1
 have h2 := h.won
 have h3 := hf.s1
 omega
theorem addV_rng {p : Pr} {n : Int} (side : Int) (h : (0 ≤ p.1 ∧ p.1 ≤ n) ∧ 0 ≤ p.2 ∧ p.2 ≤ n) : (0 ≤ (addV p side).1 ∧ (addV p side).1 ≤ n + 1) ∧ 0 ≤ (addV p side).2 ∧ (addV p side).2 ≤ n + 1 := by
 unfold addV; cases decide (side = 0) <;> simp only [cond_true, cond_false] <;> omega
theorem SpBd.step {f : Fmt} {s : Spot} {n : Int} (h : SpBd f s n) (hn : 0 ≤ n) (ht : topS s ≠ f.sets) (side : Int) : SpBd f (stepS f s side) (n + 1) := by
 have hg := addV_rng side h.g
 have hp := addV_rng side h.p
 have up : ∀ q : Pr, (0 ≤ q.1 ∧ q.1 ≤ n) ∧ 0 ≤ q.2 ∧ q.2 ≤ n → (0 ≤ q.1 ∧ q.1 ≤ n + 1) ∧ 0 ≤ q.2 ∧ q.2 ≤ n + 1 := fun q hq => by omega
 have z : (0 ≤ ((0, 0) : Pr).1 ∧ ((0, 0) : Pr).1 ≤ n + 1) ∧ 0 ≤ ((0, 0) : Pr).2 ∧ ((0, 0) : Pr).2 ≤ n + 1 := ⟨⟨Int.le_refl _, by show (0 : Int) ≤ n + 1; omega⟩, Int.le_refl _, by show (0 : Int) ≤ n + 1; omega⟩
 have hst : ∀ q ∈ s.st, (0 ≤ q.1 ∧ q.1 ≤ n + 1) ∧ 0 ≤ q.2 ∧ q.2 ≤ n + 1 := fun q hq => up q (h.st q hq)
 unfold stepS
 cases gotS f s side
 ·
  exact ⟨up _ h.g, hp, h.won, hst⟩
 cases endS' f s side
 ·
  exact ⟨hg, z, h.won, hst⟩
 refine ⟨z, z, ?_, fun q hq => ?_⟩
 ·
  show (wonV (s.st ++ [addV s.g side])).1 ≤ f.sets ∧ (wonV (s.st ++ [addV s.g side])).2 ≤ f.sets ∧ (wonV (s.st ++ [addV s.g side])).1 + (wonV (s.st ++ [addV s.g side])).2 ≤ 2 * f.sets - 1
  rw [wonV_app]
  have h1 := h.won
  have h2 : max (wonV s.st).1 (wonV s.st).2 ≠ f.sets := ht
  unfold addV
  cases decide (wside (bif decide (side = 0) then (s.g.1 + 1, s.g.2) else (s.g.1, s.g.2 + 1)) = 0) <;> simp only [cond_true, cond_false] <;> omega
 ·
  rcases List.mem_append.1 hq with hq | hq
  ·
   exact hst q hq
  ·
   rw [List.mem_singleton] at hq; subst hq; exact hg
theorem step_first (f : Fmt) (s : Spot) (side : Int) : (stepS f s side).first = s.first := by
 unfold stepS; cases gotS f s side
 ·
  rfl
 cases endS' f s side <;> rfl
theorem spS_bd {f : Fmt} {first : Int} {r : List Int} (hf : f.Ok) (h : CanP f first r) : ∀ n, n ≤ r.length → SpBd f (spS f first r n) n ∧ (spS f first r n).first = first
 | 0, _ => ⟨⟨by exact ⟨⟨Int.le_refl _, Int.le_refl _⟩, Int.le_refl _, Int.le_refl _⟩, by exact ⟨⟨Int.le_refl _, Int.le_refl _⟩, Int.le_refl _, Int.le_refl _⟩, by
   have := hf.s0
   show (0 : Int) ≤ f.sets ∧ (0 : Int) ≤ f.sets ∧ (0 : Int) + 0 ≤ 2 * f.sets - 1
   omega, fun q hq => by cases hq⟩, rfl⟩
 | n + 1, hn => by
  obtain ⟨p, hp⟩ : ∃ p, r[n]? = some p := ⟨_, List.getElem?_eq_getElem (by omega)⟩
  obtain ⟨h1, h2⟩ := spS_bd hf h n (by omega)
  rw [spS_succ hp]
  exact ⟨h1.step (by omega) (h n p hp).2 p, (step_first ..).trans h2⟩
theorem SpBd.mono {f : Fmt} {s : Spot} {n m : Int} (h : SpBd f s n) (hm : n ≤ m) : SpBd f s m := ⟨by have := h.g; omega, by have := h.p; omega, h.won, fun q hq => by have := h.st q hq; omega⟩
theorem NdOk.bd {f : Fmt} {N : List Nd} {mn : Nat → Pr} {K : Int} {x : Nd} (hf : f.Ok) (h : NdOk f N mn K x) : SpBd f x.s K := by
 obtain ⟨r, _, h1, h2, h3⟩ := h.row
 have := (spS_bd hf h2 r.length (Nat.le_refl _)).1
 rw [h3] at this
 exact this.mono h1
theorem NdOk.len {f : Fmt} {N : List Nd} {mn : Nat → Pr} {K : Int} {x : Nd} (hf : f.Ok) (h : NdOk f N mn K x) : x.s.st.length ≤ 5 := (h.bd hf).len hf
theorem NdOk.k0 {f : Fmt} {N : List Nd} {mn : Nat → Pr} {K : Int} {x : Nd} (h : NdOk f N mn K x) : 0 ≤ K := by
 have := h.lo; omega

abbrev crE (ns : List Nd) : List (List Fl × Value) := ns.map fun x => (spotF x.s, bp x.b)
theorem crE_shape (ns : List Nd) : ∀ p ∈ crE ns, shapeOf p.1 = shapeOf (spotF ⟨0, [], (0, 0), (0, 0)⟩) := fun p hp => by
 obtain ⟨x, _, rfl⟩ := List.mem_map.1 hp; rfl
def getN (ns : List Nd) (s : Spot) : Option Nd := ns.find? fun x => decide (x.s = s)
theorem getN_some {ns : List Nd} {s : Spot} {x : Nd} (h : getN ns s = some x) : x ∈ ns ∧ x.s = s := ⟨List.mem_of_find?_eq_some h, of_decide_eq_true (List.find?_some (p := fun x : Nd => decide (x.s = s)) h)⟩
theorem getN_none {ns : List Nd} {s : Spot} (h : getN ns s = none) : ∀ x ∈ ns, x.s ≠ s := fun x hx e => by
 have := List.find?_eq_none.1 h x hx
 rw [decide_eq_true_eq] at this
 exact this e
theorem lkp_cr {ns : List Nd} {s : Spot} (h5 : ∀ x ∈ ns, x.s.st.length ≤ 5) (hs : s.st.length ≤ 5) : lkp (crE ns) (spotF s) = (getN ns s).map fun x => bp x.b := by
 induction ns with
 | nil => rfl
 | cons x ns ih =>
  have ih := ih fun y hy => h5 y (by simp [hy])
  unfold lkp crE getN at *
  rw [List.map_cons, List.find?_cons, List.find?_cons]
  by_cases e : x.s = s
  ·
   rw [decide_eq_true (show spotF s = spotF x.s by rw [e]), decide_eq_true e]; rfl
  ·
   rw [decide_eq_false (show ¬ spotF s = spotF x.s from fun h => e (spotF_inj hs h).symm), decide_eq_false e]; exact ih
theorem upd_cr {ns : List Nd} {x : Nd} (h5 : ∀ y ∈ ns, y.s.st.length ≤ 5) (hs : x.s.st.length ≤ 5) (h : getN ns x.s = none) : updM (crE ns) (spotF x.s) (bp x.b) = crE (ns ++ [x]) := by
 induction ns with
 | nil => rfl
 | cons y ns ih =>
  have hn := getN_none h
  have e : ¬ spotF x.s = spotF y.s := fun h => hn y (by simp) (spotF_inj hs h).symm
  show (if spotF x.s = spotF y.s then _ else _) = _
  rw [if_neg e, ih (fun z hz => h5 z (by simp [hz])) (List.find?_eq_none.2 fun z hz => by simpa using hn z (by simp [hz]))]
  rfl
def spotKs (ns : List Nd) : List Spot := ns.map (·.s)
def toC (mn : Nat → Pr) (ns : List Nd) : List En := ns.map fun x => (x.s, ((mn x.b).1, (mn x.b).2, 0))
theorem toC_keys (mn : Nat → Pr) (ns : List Nd) : keyC (toC mn ns) = spotKs ns := by
 unfold keyC toC spotKs; rw [List.map_map]; rfl
theorem toC_congr {mn mn' : Nat → Pr} {ns : List Nd} (h : ∀ x ∈ ns, mn' x.b = mn x.b) : toC mn' ns = toC mn ns := by
 unfold toC; exact List.map_congr_left fun x hx => by rw [h x hx]
def putNs (ns : List Nd) (x : Nd) : List Nd := match getN ns x.s with
 | some _ => ns
 | none => ns ++ [x]
def putM (ns : List Nd) (mn : Nat → Pr) (x : Nd) : Nat → Pr := match getN ns x.s with
 | some o => upN mn o.b (min (mn o.b).1 (mn x.b).1, max (mn o.b).2 (mn x.b).2)
 | none => mn
theorem putNs_mem {ns : List Nd} {x y : Nd} (h : y ∈ putNs ns x) : y ∈ ns ∨ y = x := by
 unfold putNs at h
 cases hg : getN ns x.s with
 | none => rw [hg] at h; rcases List.mem_append.1 h with h | h; exact .inl h; exact .inr (List.mem_singleton.1 h)
 | some o => rw [hg] at h; exact .inl h
theorem put_toC {ns : List Nd} {mn : Nat → Pr} {x : Nd} (hk : (spotKs ns).Nodup) (hb : ∀ y ∈ ns, ∀ z ∈ ns, y.b = z.b → y = z) : toC (putM ns mn x) (putNs ns x) = putC (toC mn ns) (x.s, ((mn x.b).1, (mn x.b).2, 0)) := by
 unfold putNs putM
 cases hg : getN ns x.s with
 | none =>
  dsimp only
  have hn := getN_none hg
  clear hg hk hb
  induction ns with
  | nil => rfl
  | cons y ns ih =>
   have := ih fun z hz => hn z (by simp [hz])
   show (y.s, _) :: toC mn (ns ++ [x]) = (if y.s = x.s then _ else _ :: putC (toC mn ns) _)
   rw [if_neg (hn y (by simp)), this]
 | some o =>
  dsimp only
  obtain ⟨ho, hs⟩ := getN_some hg
  clear hg
  induction ns with
  | nil => cases ho
  | cons y ns ih =>
   unfold spotKs at hk
   rw [List.map_cons, List.nodup_cons] at hk
   show (y.s, _) :: toC _ ns = (if y.s = x.s then _ else _ :: putC (toC mn ns) _)
   by_cases e : y.s = x.s
   ·
    rw [if_pos e]
    have : o = y := by
     rcases List.mem_cons.1 ho with rfl | ho
     ·
      rfl
     ·
      exact absurd (List.mem_map.2 ⟨o, ho, hs.trans e.symm⟩) hk.1
    subst this
    rw [upN_same, toC_congr (mn := mn) fun z hz => upN_other fun e2 => ?_]
    ·
     rfl
    ·
     have := hb z (by simp [hz]) o (by simp) e2
     subst this
     exact hk.1 (List.mem_map.2 ⟨z, hz, rfl⟩)
   ·
    rw [if_neg e]
    have ho' : o ∈ ns := (List.mem_cons.1 ho).resolve_left fun e2 => e (e2 ▸ hs)
    rw [upN_other (fun e2 => e (by rw [hb y (by simp) o ho e2]; exact hs)), ih hk.2 (fun z hz u hu => hb z (by simp [hz]) u (by simp [hu])) ho']
theorem putNs_keys {ns : List Nd} {x : Nd} (hk : (spotKs ns).Nodup) : (spotKs (putNs ns x)).Nodup := by
 unfold putNs
 cases hg : getN ns x.s with
 | some o => exact hk
 | none =>
  show ((ns ++ [x]).map (·.s)).Nodup
  rw [List.map_append, List.nodup_append]
  refine ⟨hk, List.nodup_cons.2 ⟨by simp, List.nodup_nil⟩, fun a ha b hb e => ?_⟩
  obtain ⟨y, hy, rfl⟩ := List.mem_map.1 ha
  simp only [List.map_cons, List.map_nil, List.mem_singleton] at hb
  exact getN_none hg y hy (e.trans hb)
theorem putM_ok {f : Fmt} {N ns : List Nd} {mn : Nat → Pr} {K : Int} {x : Nd} (h : PoolOk f N mn K) (hs : ∀ y ∈ ns, y ∈ N) (hx : x ∈ N) : PoolOk f N (putM ns mn x) K := by
 unfold putM
 cases hg : getN ns x.s with
 | none => exact h
 | some o =>
  have h1 := h.ok o (hs o (getN_some hg).1)
  have h2 := h.ok x hx
  have a1 := h1.lo; have a2 := h1.hi; have b1 := h2.lo; have b2 := h2.hi
  exact h.set o.b (by dsimp only; omega) (by dsimp only; omega)
theorem putM_other {ns : List Nd} {mn : Nat → Pr} {x : Nd} {k : Nat} (h : ∀ y ∈ ns, y.b ≠ k) : putM ns mn x k = mn k := by
 unfold putM
 cases hg : getN ns x.s with
 | none => rfl
 | some o => exact upN_other fun e => h o (getN_some hg).1 e.symm
end Go.Proofs.YthkliiifllhacaaGreat
