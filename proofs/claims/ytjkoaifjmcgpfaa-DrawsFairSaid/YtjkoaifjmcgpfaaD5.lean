/- Walks of draws, five: all draws, one by one. -/
import Derived.Test.YtjkoaifjmcgpfaaD4
namespace Go.Proofs.Ytjkoaifjmcgpfaa
open Go Go.RowKit

def idxs (n : Nat) : List Int := (List.range n).map fun i : Nat => (i : Int)
theorem idxs_succ (n : Nat) : idxs (n + 1) = idxs n ++ [(n : Int)] := by simp [idxs, List.range_succ]
theorem idxs_len (n : Nat) : (idxs n).length = n := by simp [idxs]
theorem idxs_mem {n : Nat} {x : Int} : x ∈ idxs n ↔ 0 ≤ x ∧ x < n := by
  simp only [idxs, List.mem_map, List.mem_range]
  constructor
  · rintro ⟨i, hi, rfl⟩; omega
  · intro h; exact ⟨x.toNat, by omega, by omega⟩
def rkV (p : Pl) : List Int := -1 :: sortV (ltP p) (idxs p.ps.length)
theorem rk_len (p : Pl) : (rkV p).length = p.ps.length + 1 := by
  rw [rkV, List.length_cons, sortV, sortTo_len _ _ _ (Nat.le_refl _), idxs_len]
theorem rk_mem {p : Pl} {x : Int} : x ∈ rkV p ↔ InP p x := by
  rw [rkV, List.mem_cons, sortV_mem, idxs_mem]; rfl
def drawsV (p : Pl) : List (List Int) := moreV p (rkV p) p.size.toNat [] (byesV p)
abbrev itL (p : Pl) (a : PA) (bp br : Nat) (rA : Option Addr) (rc : Nat) : List Ent := [.blk bp 25 (p.cells a), .blk br 23 [.slice rA (p.ps.length + 1) rc], .own rA rc 3 1 (p.ps.length + 1) (enI (rkV p)), .ro a.pA 3 p.ps.length (encPs p.ps), .ro a.lA 1 p.lots.length (enI p.lots)]
abbrev moL (lb bp by_ br bm : Nat) : List Ent := [.blk by_ 84 [.func (.yield lb) #[] #[]], .blk bm 56 [.func (.func 85) #[] #[.pointer (some ⟨bp, 0, none⟩), .pointer (some ⟨by_, 0, none⟩), .pointer (some ⟨br, 0, none⟩), .pointer (some ⟨bm, 0, none⟩)]]]
structure MR (Y : Type) where
  (r : Bool) (y : Y) (sp : List Value)
/-- What is asked of the consumer's rounds. -/
abbrev Rounds {Y : Type} (p : Pl) (D : List (List Int)) (ψ : Nat → Y → Prop) (J : Nat → Y → List Ent) (ψx : Y → Prop) (Jx : Y → List Ent) (Lp : List Ent) (w0 : World) (lb : Nat) : Prop :=
  ∀ (R : List Ent) (k : Nat) (x : Option Addr × Nat) (y : Y) (w : World), k < D.length → True → ψ k y → St w0 w ([.own x.1 x.2 3 1 p.size.toNat (enI (D.getD k []))] ++ (Lp ++ (J k y ++ R))) → RoundOf Try.prog lb [.slice x.1 p.size.toNat x.2] w (RR ψ (fun k y => J k y ++ R) ψx (fun y => Jx y ++ R) Lp w0 k)
abbrev moreArgs (g : Nat) (n S : Nat) (byes : Int) (bp by_ br bm : Nat) : List Value := [.slice (some ⟨g, 0, none⟩) n S, .int .i64 byes] ++ [.pointer (some ⟨bp, 0, none⟩), .pointer (some ⟨by_, 0, none⟩), .pointer (some ⟨br, 0, none⟩), .pointer (some ⟨bm, 0, none⟩)]
abbrev MoreOk {Y : Type} (p : Pl) (D : List (List Int)) (ψ : Nat → Y → Prop) (J : Nat → Y → List Ent) (ψx : Y → Prop) (Jx : Y → List Ent) (Lp : List Ent) (w0 : World) (lb g bp by_ br bm : Nat) (f : Nat) : Prop :=
  ∀ (l : List Int) (byes : Int) (sp : List Value) (k0 : Nat) (y : Y) (w : World), (l.length : Int) + f = p.size → sp.length = f → (0 ≤ byes ∧ byes ≤ 100) → (∀ x ∈ l, InP p x) →
    (∀ (j : Nat) (v : List Int), (moreV p (rkV p) f l byes)[j]? = some v → D[k0 + j]? = some v) → ψ k0 y → St w0 w (.blk g 3 (l.map vI ++ sp) :: (moL lb bp by_ br bm ++ (Lp ++ J k0 y))) →
    Calls Try.prog 85 (moreArgs g l.length p.size.toNat byes bp by_ br bm).toArray w fun e w' => ∃ z : MR Y, (z.sp.length = f ∧ cond z.r (ψ (k0 + (moreV p (rkV p) f l byes).length) z.y) (ψx z.y)) ∧ e = .returned (.bool z.r) ∧
      St w0 w' (.blk g 3 (l.map vI ++ z.sp) :: (moL lb bp by_ br bm ++ (Lp ++ cond z.r (J (k0 + (moreV p (rkV p) f l byes).length) z.y) (Jx z.y))))
theorem At.left {e : Ent} {A M : List Ent} (h : At A e M) (B : List Ent) : At (A ++ B) e (M ++ B) := by
  induction h with
  | here => exact .here
  | there _ ih => exact .there ih
theorem SubL.app_nil : ∀ (A : List Ent), SubL A (A ++ [])
  | A => by rw [List.append_nil]; exact SubL.refl _
theorem SubL.rot : ∀ (R A : List Ent), SubL (A ++ R) (R ++ A)
  | R, [] => SubL.app_nil R
  | R, a :: A => SubL.cons (At.app R A) (SubL.rot R A)
theorem SubL.back (R A B : List Ent) : SubL (A ++ (B ++ R)) (R ++ (A ++ B)) := by
  rw [← List.append_assoc]; exact SubL.rot R (A ++ B)
theorem SubL.front (R A B : List Ent) : SubL (R ++ (A ++ B)) (A ++ (B ++ R)) := by
  rw [← List.append_assoc A]; exact SubL.rot (A ++ B) R
section
variable {Y : Type} (p : Pl) (a : PA) (hq : p.Ok) (hpn : p.ps.length ≤ 9223372036854775807) (hln : p.lots.length ≤ 9223372036854775807) (hpc : p.ps.length ≤ a.pc) (D : List (List Int)) (ψ : Nat → Y → Prop) (J : Nat → Y → List Ent) (ψx : Y → Prop) (Jx : Y → List Ent) (w0 : World) (lb g bp by_ br bm : Nat) (rA : Option Addr) (rc : Nat)
set_option maxHeartbeats 2000000 in
include hq in
theorem more_zero (hround : Rounds p D ψ J ψx Jx (itL p a bp br rA rc) w0 lb) : MoreOk p D ψ J ψx Jx (itL p a bp br rA rc) w0 lb g bp by_ br bm 0 := by
  intro l byes sp k0 y w hlen hspl hby hin hD hy hst
  have hz := hq.z
  obtain rfl : sp = [] := List.eq_nil_of_length_eq_zero hspl
  have hB : ∀ w, (Ent.blk g 3 (l.map vI ++ [])).ok w → Rd w (some ⟨g, 0, none⟩) 1 l.length (enI l) := fun w h => rd_blk (pre := []) (sp := []) rfl (by omega) w h
  have hSl : p.size.toNat = l.length := by omega
  have hDl : D[k0]? = some l := hD 0 l rfl
  have hDk : D.getD k0 [] = l := by rw [List.getD_eq_getElem?_getD, hDl]; rfl
  have hkN : k0 < D.length := (List.getElem?_eq_some_iff.1 hDl).1
  refine enM (vs := moreArgs g l.length p.size.toNat byes bp by_ br bm) Try.func85 Try.ntmps85 hst (h := ?_)
  refine sq (h := ?_)
  refine rg (h := ?_)
  refine WL.y (hy := asg) (h := ?_)
  refine nl (h := ?_)
  refine q_seq (h := ?_)
  refine sq (h := ?_)
  refine rg (h := ?_)
  refine WL.y (hy := mv) (h := ?_)
  refine WL.y (hy := lenS) (h := ?_)
  refine WL.y (hy := asg) (h := ?_)
  refine nl (h := ?_)
  refine q_seq (h := ?_)
  refine sq (h := ?_)
  refine sq (h := ?_)
  refine rg (h := ?_)
  refine WL.y (hy := mv) (h := ?_)
  refine WL.y (hy := (by first | exact fa | exact faE)) (h := ?_)
  refine WL.y (hy := (by first | exact ld | exact ldE)) (h := ?_)
  refine WL.y (hy := eql) (h := ?_)
  refine nl (h := ?_)
  refine q_seq (h := ?_)
  refine cd (by exact rfl) (fun h0 => ?_) (fun h0 => ?_)
  · skip
    refine sq (h := ?_)
    refine rgD (by kernel_rfl) [(1000000, .blk by_ 84 [.func (.yield lb) #[] #[]])] (by repeat (first | exact HS.nil | (apply HS.keep; (repeat (first | exact At.here | apply At.there))) | (apply HS.ro; (repeat (first | exact Rds.ro | exact Rds.own | apply Rds.there))))) (h := ?_)
    refine tk 0 (hy := (by first | exact ld | exact ldE)) (h := ?_)
    refine tk 1 (hy := mv) (h := ?_)
    refine one 2 (h := ?_)
    refine cl (hc := fun w hS => C_CloneInts (some ⟨g, 0, none⟩) l.length p.size.toNat (enI l) w (hS.get (Rds.any hB)) (by omega)) (h := fun x0 _ => ?_)
    refine nx (h := ?_)
    refine one 3 (h := ?_)
    refine yl (lb := lb) (Z := Bool × Y) (Φ := fun r => cond r.1 (ψ (k0 + 1) r.2) (ψx r.2)) (val := fun r => .bool r.1) (post := fun r => .blk g 3 (l.map vI ++ []) :: (moL lb bp by_ br bm ++ (itL p a bp br rA rc ++ cond r.1 (J (k0 + 1) r.2) (Jx r.2)))) (by exact rfl) (by repeat (first | exact Evs.nil | (apply Evs.cons; exact rfl))) rfl (fun w hS => ?_) (fun r hr => ?_)
    · have hround := hround (.blk g 3 (l.map vI ++ []) :: moL lb bp by_ br bm) k0 x0 y w hkN trivial hy
      rw [hDk, hSl] at hround
      obtain ⟨fn, tmps, asg, bo, hy2, hR⟩ := hround (hS.sub (SubL.cons .here (SubL.back (.blk g 3 (l.map vI ++ []) :: moL lb bp by_ br bm) _ _)))
      refine ⟨fn, tmps, asg, bo, hy2, hR.mono fun e w' he => ?_⟩
      rcases he with ⟨rfl, y, hy, hs⟩ | ⟨rfl, y, hy, hs⟩
      · exact ⟨(true, y), hy, rfl, hs.sub (SubL.front (.blk g 3 (l.map vI ++ []) :: moL lb bp by_ br bm) _ _)⟩
      · exact ⟨(false, y), hy, rfl, hs.sub (SubL.front (.blk g 3 (l.map vI ++ []) :: moL lb bp by_ br bm) _ _)⟩
    refine nx (h := ?_)
    refine tk 4 (hy := asg) (h := ?_)
    refine dn (h := ?_)
    refine q_seq (h := ?_)
    refine rtn (h := ?_)
    refine q_then_ret (h := ?_)
    refine q_retM0 (hR := ?_)
    obtain ⟨rb, ry⟩ := r
    exact fun w hS => ⟨⟨rb, ry, []⟩, ⟨rfl, hr⟩, rfl, hS⟩
  · skip
    exfalso
    simp only [decide_eq_false_iff_not] at h0
    omega
structure MoZ (Y : Type) where
  (i : Nat) (y : Y) (sp : List Value)
def stepV (p : Pl) (f : Nat) (l : List Int) (byes n : Int) : List (List Int) := bif skipV p l byes n then [] else moreV p (rkV p) f (l ++ [n]) (leftB byes n)
def cntV (p : Pl) (f : Nat) (l : List Int) (byes : Int) (i : Nat) : Nat := (((rkV p).take i).flatMap (stepV p f l byes)).length
omit Y in
theorem cnt_succ {f : Nat} {l : List Int} {byes n : Int} {i : Nat} (h : (rkV p)[i]? = some n) : cntV p f l byes (i + 1) = cntV p f l byes i + (stepV p f l byes n).length := by
  unfold cntV
  rw [List.take_add_one, h, List.flatMap_append, List.length_append]
  simp
omit Y in
theorem more_at {f : Nat} {l : List Int} {byes n : Int} {i : Nat} (h : (rkV p)[i]? = some n) {j : Nat} {v : List Int} (hj : (stepV p f l byes n)[j]? = some v) : (moreV p (rkV p) (f + 1) l byes)[cntV p f l byes i + j]? = some v := by
  have hi := (List.getElem?_eq_some_iff.1 h).1
  have hs : rkV p = (rkV p).take i ++ n :: (rkV p).drop (i + 1) := by
    have hd := List.drop_eq_getElem_cons hi
    rw [(List.getElem?_eq_some_iff.1 h).2] at hd
    rw [← hd, List.take_append_drop]
  have hm : moreV p (rkV p) (f + 1) l byes = (rkV p).flatMap (stepV p f l byes) := rfl
  rw [hm]
  conv => lhs; rw [hs]
  rw [List.flatMap_append, List.flatMap_cons, List.getElem?_append_right (by unfold cntV; omega)]
  have e : cntV p f l byes i + j - (((rkV p).take i).flatMap (stepV p f l byes)).length = j := by unfold cntV; omega
  rw [e, List.getElem?_append_left (List.getElem?_eq_some_iff.1 hj).1]
  exact hj
set_option maxRecDepth 100000 in
set_option maxHeartbeats 4000000 in
include hq hpn hln hpc in
theorem more_succ (f : Nat) (ih : MoreOk p D ψ J ψx Jx (itL p a bp br rA rc) w0 lb g bp by_ br bm f) : MoreOk p D ψ J ψx Jx (itL p a bp br rA rc) w0 lb g bp by_ br bm (f + 1) := by
  intro l byes sp k0 y w hlen hspl hby hin hD hy hst
  have hz := hq.z
  have hqn := hq.n
  have hrl := rk_len p
  have hB : ∀ sp : List Value, ∀ w, (Ent.blk g 3 (l.map vI ++ sp)).ok w → Rd w (some ⟨g, 0, none⟩) 1 l.length (enI l) := fun sp w h => rd_blk (pre := []) (sp := sp) rfl (by omega) w h
  refine enM (vs := moreArgs g l.length p.size.toNat byes bp by_ br bm) Try.func85 Try.ntmps85 hst (h := ?_)
  refine sq (h := ?_)
  refine rg (h := ?_)
  refine WL.y (hy := asg) (h := ?_)
  refine nl (h := ?_)
  refine q_seq (h := ?_)
  refine sq (h := ?_)
  refine rg (h := ?_)
  refine WL.y (hy := mv) (h := ?_)
  refine WL.y (hy := lenS) (h := ?_)
  refine WL.y (hy := asg) (h := ?_)
  refine nl (h := ?_)
  refine q_seq (h := ?_)
  refine sq (h := ?_)
  refine sq (h := ?_)
  refine rg (h := ?_)
  refine WL.y (hy := mv) (h := ?_)
  refine WL.y (hy := (by first | exact fa | exact faE)) (h := ?_)
  refine WL.y (hy := (by first | exact ld | exact ldE)) (h := ?_)
  refine WL.y (hy := eql) (h := ?_)
  refine nl (h := ?_)
  refine q_seq (h := ?_)
  refine cd (by exact rfl) (fun h0 => ?_) (fun h0 => ?_)
  · skip
    exfalso
    simp only [decide_eq_true_eq] at h0
    omega
  · skip
    refine skp (h := ?_)
    refine q_seq (h := ?_)
    refine sq (h := ?_)
    refine sq (h := ?_)
    refine rg (h := ?_)
    refine WL.y (hy := (by first | exact ld | exact ldE)) (h := ?_)
    refine WL.y (hy := lenS) (h := ?_)
    refine WL.y (hy := mv) (h := ?_)
    refine nl (h := ?_)
    refine q_seq (h := ?_)
    refine bk (h := ?_)
    refine lp (X := MoZ Y) (I := fun z => z.i ≤ (rkV p).length ∧ z.sp.length = f + 1 ∧ ψ (k0 + cntV p f l byes z.i) z.y) (le := fun z => [(0, .slice (some ⟨g, 0, none⟩) l.length p.size.toNat), (1, .int .i64 byes), (2, .pointer (some ⟨bp, 0, none⟩)), (3, .pointer (some ⟨by_, 0, none⟩)), (4, .pointer (some ⟨br, 0, none⟩)), (5, .pointer (some ⟨bm, 0, none⟩)), (9, .int .i64 l.length), (23, .slice rA (p.ps.length + 1) rc), (24, .int .i64 ((rkV p).length : Int)), (25, .int .i64 z.i)]) (Le := fun z => .blk g 3 (l.map vI ++ z.sp) :: (moL lb bp by_ br bm ++ (itL p a bp br rA rc ++ J (k0 + cntV p f l byes z.i) z.y))) (μ := fun z => (rkV p).length - z.i) ⟨0, y, sp⟩ ⟨Nat.zero_le _, hspl, hy⟩ (by
      rw [hrl]
      repeat (first | exact trivial | refine ⟨rfl, ?_⟩)) (SubL.refl _) (fun z hz => ?_)
    obtain ⟨hz1, hz2, hz3⟩ := hz
    refine sq (h := ?_)
    refine rg (h := ?_)
    refine WL.y (hy := lss) (h := ?_)
    refine nl (h := ?_)
    refine q_seq (h := ?_)
    refine sq (h := ?_)
    refine cd (by exact rfl) (fun h1 => ?_) (fun h1 => ?_)
    · skip
      have hkn : z.i < (rkV p).length := by simp only [decide_eq_true_eq] at h1; omega
      obtain ⟨n, hn1⟩ : ∃ n, (rkV p)[z.i]? = some n := ⟨_, List.getElem?_eq_getElem hkn⟩
      have hne := enI_at hn1
      have hnr := rk_mem.1 (List.mem_of_getElem? hn1)
      have hcs := cnt_succ p (f := f) (l := l) (byes := byes) hn1
      refine skp (h := ?_)
      refine q_seq (h := ?_)
      refine sq (h := ?_)
      refine bk (h := ?_)
      refine sq (h := ?_)
      refine rg (h := ?_)
      refine WL.y (hy := ix (A := rA) (m := p.ps.length + 1)) (h := ?_)
      refine WL.y (hy := ldE (A := rA) (hk := hne)) (h := ?_)
      refine WL.y (hy := asg) (h := ?_)
      refine nl (h := ?_)
      refine q_seq (h := ?_)
      refine sq (h := ?_)
      refine rg (h := ?_)
      refine WL.y (hy := mv) (h := ?_)
      refine WL.y (hy := asg) (h := ?_)
      refine nl (h := ?_)
      refine q_seq (h := ?_)
      refine ct (X := Unit) (fun _ => True) (fun _ => [(0, .slice (some ⟨g, 0, none⟩) l.length p.size.toNat), (1, .int .i64 byes), (2, .pointer (some ⟨bp, 0, none⟩)), (3, .pointer (some ⟨by_, 0, none⟩)), (4, .pointer (some ⟨br, 0, none⟩)), (5, .pointer (some ⟨bm, 0, none⟩)), (9, .int .i64 l.length), (11, .int .i64 n), (12, .int .i64 (leftB byes n)), (23, .slice rA (p.ps.length + 1) rc), (24, .int .i64 ((rkV p).length : Int)), (25, .int .i64 z.i)]) (fun _ => .blk g 3 (l.map vI ++ z.sp) :: (moL lb bp by_ br bm ++ (itL p a bp br rA rc ++ J (k0 + cntV p f l byes z.i) z.y))) (h1 := ?_) (h2 := ?_)
      · skip
        refine sq (h := ?_)
        refine rg (h := ?_)
        refine WL.y (hy := mv) (h := ?_)
        refine WL.y (hy := eql) (h := ?_)
        refine nl (h := ?_)
        refine q_seq (h := ?_)
        refine cd (by exact rfl) (fun h2 => ?_) (fun h2 => ?_)
        · skip
          have hlf : leftB byes n = byes - 1 := by rw [leftB, h2]; rfl
          refine rg (h := ?_)
          refine WL.y (hy := mv) (h := ?_)
          refine WL.y (hy := subI) (h := ?_)
          refine WL.y (hy := asg) (h := ?_)
          refine nl (h := ?_)
          exact ctn () trivial (by rw [hlf]; repeat (first | exact trivial | refine ⟨rfl, ?_⟩)) (SubL.refl _)
        · skip
          have hlf : leftB byes n = byes := by rw [leftB, h2]; rfl
          refine skp (h := ?_)
          exact ctn () trivial (by rw [hlf]; repeat (first | exact trivial | refine ⟨rfl, ?_⟩)) (SubL.refl _)
      rintro ⟨⟩ -
      refine sq (h := ?_)
      refine ct (X := Bool) (fun s => s = skipV p l byes n) (fun s => [(0, .slice (some ⟨g, 0, none⟩) l.length p.size.toNat), (1, .int .i64 byes), (2, .pointer (some ⟨bp, 0, none⟩)), (3, .pointer (some ⟨by_, 0, none⟩)), (4, .pointer (some ⟨br, 0, none⟩)), (5, .pointer (some ⟨bm, 0, none⟩)), (9, .int .i64 l.length), (11, .int .i64 n), (12, .int .i64 (leftB byes n)), (23, .slice rA (p.ps.length + 1) rc), (24, .int .i64 ((rkV p).length : Int)), (25, .int .i64 z.i), (67, .bool s)]) (fun _ => .blk g 3 (l.map vI ++ z.sp) :: (moL lb bp by_ br bm ++ (itL p a bp br rA rc ++ J (k0 + cntV p f l byes z.i) z.y))) (h1 := ?_) (h2 := ?_)
      · skip
        refine rgD (by kernel_rfl) [(1000000, .blk bp 25 (p.cells a)), (1000000, .blk g 3 (l.map vI ++ z.sp))] (by repeat (first | exact HS.nil | (apply HS.keep; (repeat (first | exact At.here | apply At.there))) | (apply HS.ro; (repeat (first | exact Rds.ro | exact Rds.own | apply Rds.there))))) (h := ?_)
        refine tk 0 (hy := mv) (h := ?_)
        refine tk 1 (hy := lss) (h := ?_)
        refine tk 2 (hy := mv) (h := ?_)
        refine brH (g := 36) (by exact rfl) (fun hb3 => ?_) (fun hb3 => ?_)
        · skip
          refine tkS 3 (h := ?_)
          refine tkS 4 (h := ?_)
          refine tkS 5 (h := ?_)
          refine tkS 6 (h := ?_)
          refine tkS 7 (h := ?_)
          refine tkS 8 (h := ?_)
          refine tkS 9 (h := ?_)
          refine tk 10 (hy := (by first | exact pkT | exact pkF)) (h := ?_)
          refine tk 11 (hy := mv) (h := ?_)
          refine tkS 12 (h := ?_)
          refine tkS 13 (h := ?_)
          refine tkS 14 (h := ?_)
          refine tkS 15 (h := ?_)
          refine tkS 16 (h := ?_)
          refine tk 17 (hy := (by first | exact pkT | exact pkF)) (h := ?_)
          refine tk 18 (hy := mv) (h := ?_)
          refine tkS 19 (h := ?_)
          refine tkS 20 (h := ?_)
          refine tkS 21 (h := ?_)
          refine tkS 22 (h := ?_)
          refine tkS 23 (h := ?_)
          refine tkS 24 (h := ?_)
          refine tkS 25 (h := ?_)
          refine tkS 26 (h := ?_)
          refine tkS 27 (h := ?_)
          refine tkS 28 (h := ?_)
          refine tkS 29 (h := ?_)
          refine tkS 30 (h := ?_)
          refine tkS 31 (h := ?_)
          refine tkS 32 (h := ?_)
          refine tk 33 (hy := (by first | exact pkT | exact pkF)) (h := ?_)
          refine dn (h := ?_)
          refine ctnL _ (by repeat (first | exact trivial | refine ⟨rfl, ?_⟩)) (SubL.refl _) ?_
          simp only [skipV, hasV, *]
          try simp
        · skip
          refine tk 3 (hy := mv) (h := ?_)
          refine tk 4 (hy := neq) (h := ?_)
          refine tk 5 (hy := mv) (h := ?_)
          refine brH (g := 39) (by exact rfl) (fun hb4 => ?_) (fun hb4 => ?_)
          · skip
            refine tk 6 (hy := mv) (h := ?_)
            refine tk 7 (hy := mv) (h := ?_)
            refine one 8 (h := ?_)
            refine un (h := ?_)
            refine cl0 (hc := fun w hS => C_slices_Contains l n (some ⟨g, 0, none⟩) l.length p.size.toNat w (hS.get (Rds.any (hB z.sp))) (by omega)) (h := ?_)
            refine nx (h := ?_)
            refine tk 9 (hy := (by first | exact pkT | exact pkF)) (h := ?_)
            refine tk 10 (hy := (by first | exact pkT | exact pkF)) (h := ?_)
            refine tk 11 (hy := mv) (h := ?_)
            refine brH (g := 45) (by exact rfl) (fun hb5 => ?_) (fun hb5 => ?_)
            · skip
              refine tkS 12 (h := ?_)
              refine tkS 13 (h := ?_)
              refine tkS 14 (h := ?_)
              refine tkS 15 (h := ?_)
              refine tkS 16 (h := ?_)
              refine tk 17 (hy := (by first | exact pkT | exact pkF)) (h := ?_)
              refine tk 18 (hy := mv) (h := ?_)
              refine tkS 19 (h := ?_)
              refine tkS 20 (h := ?_)
              refine tkS 21 (h := ?_)
              refine tkS 22 (h := ?_)
              refine tkS 23 (h := ?_)
              refine tkS 24 (h := ?_)
              refine tkS 25 (h := ?_)
              refine tkS 26 (h := ?_)
              refine tkS 27 (h := ?_)
              refine tkS 28 (h := ?_)
              refine tkS 29 (h := ?_)
              refine tkS 30 (h := ?_)
              refine tkS 31 (h := ?_)
              refine tkS 32 (h := ?_)
              refine tk 33 (hy := (by first | exact pkT | exact pkF)) (h := ?_)
              refine dn (h := ?_)
              refine ctnL _ (by repeat (first | exact trivial | refine ⟨rfl, ?_⟩)) (SubL.refl _) ?_
              simp only [skipV, hasV, *]
              try simp
            · skip
              refine tk 12 (hy := (by first | exact ldA | exact ldEA)) (h := ?_)
              refine tk 13 (hy := mv) (h := ?_)
              refine tk 14 (hy := mv) (h := ?_)
              refine one 15 (h := ?_)
              refine un (h := ?_)
              refine cl0 (hc := fun w hS => C_seat p a l.length n hq w ⟨hS.get (by repeat (first | exact Rds.ro | apply Rds.there)), hS.get (by repeat (first | exact Rds.ro | apply Rds.there)), hpn, hln, hpc⟩) (h := ?_)
              refine nx (h := ?_)
              refine tk 16 (hy := notB) (h := ?_)
              refine tk 17 (hy := (by first | exact pkT | exact pkF)) (h := ?_)
              refine tk 18 (hy := mv) (h := ?_)
              refine brH (g := 52) (by exact rfl) (fun hb6 => ?_) (fun hb6 => ?_)
              · skip
                refine tkS 19 (h := ?_)
                refine tkS 20 (h := ?_)
                refine tkS 21 (h := ?_)
                refine tkS 22 (h := ?_)
                refine tkS 23 (h := ?_)
                refine tkS 24 (h := ?_)
                refine tkS 25 (h := ?_)
                refine tkS 26 (h := ?_)
                refine tkS 27 (h := ?_)
                refine tkS 28 (h := ?_)
                refine tkS 29 (h := ?_)
                refine tkS 30 (h := ?_)
                refine tkS 31 (h := ?_)
                refine tkS 32 (h := ?_)
                refine tk 33 (hy := (by first | exact pkT | exact pkF)) (h := ?_)
                refine dn (h := ?_)
                refine ctnL _ (by repeat (first | exact trivial | refine ⟨rfl, ?_⟩)) (SubL.refl _) ?_
                simp only [skipV, hasV, *]
                try simp
              · skip
                refine tk 19 (hy := mv) (h := ?_)
                refine tk 20 (hy := remI) (h := ?_)
                refine tk 21 (hy := eql) (h := ?_)
                refine tk 22 (hy := mv) (h := ?_)
                refine brH (g := 56) (by exact rfl) (fun hb7 => ?_) (fun hb7 => ?_)
                · skip
                  have hk1 : (l.length : Int) % 2 = 1 := of_decide_eq_true hb7
                  obtain ⟨x1, hx1⟩ : ∃ x, l[l.length - 1]? = some x := ⟨_, List.getElem?_eq_getElem (by omega)⟩
                  have hx1r := hin x1 (List.mem_of_getElem? hx1)
                  have hlast : lastV l = x1 := by rw [lastV, List.getLast?_eq_getElem?, hx1]; rfl
                  have hx1e : (enI l)[((l.length : Int) - 1).toNat]? = some [.int .i64 x1] := by rw [show ((l.length : Int) - 1).toNat = l.length - 1 by omega]; exact enI_at hx1
                  refine tk 23 (hy := (by first | exact ldA | exact ldEA)) (h := ?_)
                  refine tk 24 (hy := mv) (h := ?_)
                  refine tk 25 (hy := mv) (h := ?_)
                  refine tk 26 (hy := subI) (h := ?_)
                  refine tk 27 (hy := ix (A := some ⟨g, 0, none⟩) (m := l.length) (hr := (by repeat (first | exact Rds.any (hB z.sp) | apply Rds.there)))) (h := ?_)
                  refine tk 28 (hy := ldE (A := some ⟨g, 0, none⟩) (hr := (by repeat (first | exact Rds.any (hB z.sp) | apply Rds.there))) (hk := hx1e)) (h := ?_)
                  refine tk 29 (hy := mv) (h := ?_)
                  refine one 30 (h := ?_)
                  refine un (h := ?_)
                  refine cl0 (hc := fun w hS => C_match p a x1 n hq hx1r hnr w ⟨hS.get (by repeat (first | exact Rds.ro | apply Rds.there)), hS.get (by repeat (first | exact Rds.ro | apply Rds.there)), hpn, hln, hpc⟩) (h := ?_)
                  rw [← hlast]
                  refine nx (h := ?_)
                  refine tk 31 (hy := notB) (h := ?_)
                  refine tk 32 (hy := (by first | exact pkT | exact pkF)) (h := ?_)
                  refine tk 33 (hy := (by first | exact pkT | exact pkF)) (h := ?_)
                  refine dn (h := ?_)
                  refine ctnL _ (by repeat (first | exact trivial | refine ⟨rfl, ?_⟩)) (SubL.refl _) ?_
                  simp only [skipV, hasV, *]
                  try simp
                · skip
                  refine tkS 23 (h := ?_)
                  refine tkS 24 (h := ?_)
                  refine tkS 25 (h := ?_)
                  refine tkS 26 (h := ?_)
                  refine tkS 27 (h := ?_)
                  refine tkS 28 (h := ?_)
                  refine tkS 29 (h := ?_)
                  refine tkS 30 (h := ?_)
                  refine tkS 31 (h := ?_)
                  refine tk 32 (hy := (by first | exact pkT | exact pkF)) (h := ?_)
                  refine tk 33 (hy := (by first | exact pkT | exact pkF)) (h := ?_)
                  refine dn (h := ?_)
                  refine ctnL _ (by repeat (first | exact trivial | refine ⟨rfl, ?_⟩)) (SubL.refl _) ?_
                  simp only [skipV, hasV, *]
                  try simp
          · skip
            refine tkS 6 (h := ?_)
            refine tkS 7 (h := ?_)
            refine tkS 8 (h := ?_)
            refine tk 9 (hy := (by first | exact pkT | exact pkF)) (h := ?_)
            refine tk 10 (hy := (by first | exact pkT | exact pkF)) (h := ?_)
            refine tk 11 (hy := mv) (h := ?_)
            refine tk 12 (hy := (by first | exact ldA | exact ldEA)) (h := ?_)
            refine tk 13 (hy := mv) (h := ?_)
            refine tk 14 (hy := mv) (h := ?_)
            refine one 15 (h := ?_)
            refine un (h := ?_)
            refine cl0 (hc := fun w hS => C_seat p a l.length n hq w ⟨hS.get (by repeat (first | exact Rds.ro | apply Rds.there)), hS.get (by repeat (first | exact Rds.ro | apply Rds.there)), hpn, hln, hpc⟩) (h := ?_)
            refine nx (h := ?_)
            refine tk 16 (hy := notB) (h := ?_)
            refine tk 17 (hy := (by first | exact pkT | exact pkF)) (h := ?_)
            refine tk 18 (hy := mv) (h := ?_)
            refine brH (g := 52) (by exact rfl) (fun hb8 => ?_) (fun hb8 => ?_)
            · skip
              refine tkS 19 (h := ?_)
              refine tkS 20 (h := ?_)
              refine tkS 21 (h := ?_)
              refine tkS 22 (h := ?_)
              refine tkS 23 (h := ?_)
              refine tkS 24 (h := ?_)
              refine tkS 25 (h := ?_)
              refine tkS 26 (h := ?_)
              refine tkS 27 (h := ?_)
              refine tkS 28 (h := ?_)
              refine tkS 29 (h := ?_)
              refine tkS 30 (h := ?_)
              refine tkS 31 (h := ?_)
              refine tkS 32 (h := ?_)
              refine tk 33 (hy := (by first | exact pkT | exact pkF)) (h := ?_)
              refine dn (h := ?_)
              refine ctnL _ (by repeat (first | exact trivial | refine ⟨rfl, ?_⟩)) (SubL.refl _) ?_
              simp only [skipV, hasV, *]
              try simp
            · skip
              refine tk 19 (hy := mv) (h := ?_)
              refine tk 20 (hy := remI) (h := ?_)
              refine tk 21 (hy := eql) (h := ?_)
              refine tk 22 (hy := mv) (h := ?_)
              refine brH (g := 56) (by exact rfl) (fun hb9 => ?_) (fun hb9 => ?_)
              · skip
                have hk1 : (l.length : Int) % 2 = 1 := of_decide_eq_true hb9
                obtain ⟨x1, hx1⟩ : ∃ x, l[l.length - 1]? = some x := ⟨_, List.getElem?_eq_getElem (by omega)⟩
                have hx1r := hin x1 (List.mem_of_getElem? hx1)
                have hlast : lastV l = x1 := by rw [lastV, List.getLast?_eq_getElem?, hx1]; rfl
                have hx1e : (enI l)[((l.length : Int) - 1).toNat]? = some [.int .i64 x1] := by rw [show ((l.length : Int) - 1).toNat = l.length - 1 by omega]; exact enI_at hx1
                refine tk 23 (hy := (by first | exact ldA | exact ldEA)) (h := ?_)
                refine tk 24 (hy := mv) (h := ?_)
                refine tk 25 (hy := mv) (h := ?_)
                refine tk 26 (hy := subI) (h := ?_)
                refine tk 27 (hy := ix (A := some ⟨g, 0, none⟩) (m := l.length) (hr := (by repeat (first | exact Rds.any (hB z.sp) | apply Rds.there)))) (h := ?_)
                refine tk 28 (hy := ldE (A := some ⟨g, 0, none⟩) (hr := (by repeat (first | exact Rds.any (hB z.sp) | apply Rds.there))) (hk := hx1e)) (h := ?_)
                refine tk 29 (hy := mv) (h := ?_)
                refine one 30 (h := ?_)
                refine un (h := ?_)
                refine cl0 (hc := fun w hS => C_match p a x1 n hq hx1r hnr w ⟨hS.get (by repeat (first | exact Rds.ro | apply Rds.there)), hS.get (by repeat (first | exact Rds.ro | apply Rds.there)), hpn, hln, hpc⟩) (h := ?_)
                rw [← hlast]
                refine nx (h := ?_)
                refine tk 31 (hy := notB) (h := ?_)
                refine tk 32 (hy := (by first | exact pkT | exact pkF)) (h := ?_)
                refine tk 33 (hy := (by first | exact pkT | exact pkF)) (h := ?_)
                refine dn (h := ?_)
                refine ctnL _ (by repeat (first | exact trivial | refine ⟨rfl, ?_⟩)) (SubL.refl _) ?_
                simp only [skipV, hasV, *]
                try simp
              · skip
                refine tkS 23 (h := ?_)
                refine tkS 24 (h := ?_)
                refine tkS 25 (h := ?_)
                refine tkS 26 (h := ?_)
                refine tkS 27 (h := ?_)
                refine tkS 28 (h := ?_)
                refine tkS 29 (h := ?_)
                refine tkS 30 (h := ?_)
                refine tkS 31 (h := ?_)
                refine tk 32 (hy := (by first | exact pkT | exact pkF)) (h := ?_)
                refine tk 33 (hy := (by first | exact pkT | exact pkF)) (h := ?_)
                refine dn (h := ?_)
                refine ctnL _ (by repeat (first | exact trivial | refine ⟨rfl, ?_⟩)) (SubL.refl _) ?_
                simp only [skipV, hasV, *]
                try simp
      intro s hs'
      refine cd (by exact rfl) (fun h10 => ?_) (fun h10 => ?_)
      · skip
        have hsk : skipV p l byes n = true := hs'.symm.trans h10
        have hst0 : stepV p f l byes n = [] := by rw [stepV, hsk]; rfl
        refine et (h := ?_)
        refine q_then_exit (h := ?_)
        refine q_blk_hit (h := ?_)
        refine q_seq (h := ?_)
        refine rg (h := ?_)
        refine WL.y (hy := addI) (h := ?_)
        refine WL.y (hy := mv) (h := ?_)
        refine nl (h := ?_)
        first
          | (refine rn (x := z) ⟨z.i + 1, z.y, z.sp⟩ ⟨by dsimp only; omega, hz2, by dsimp only; rw [hcs, hst0]; exact hz3⟩ (by dsimp only; omega) (by repeat (first | exact trivial | refine ⟨rfl, ?_⟩)) (by dsimp only; rw [hcs, hst0]; exact SubL.refl _))
          | (refine rn (x := z) ⟨z.i + 1, ry, .int .i64 n :: rsp⟩ ⟨by dsimp only; omega, by simp only [List.length_cons]; exact congrArg (· + 1) hr1, by dsimp only; rw [hnxt]; exact hr2⟩ (by dsimp only; omega) (by repeat (first | exact trivial | refine ⟨rfl, ?_⟩)) (by
              dsimp only
              rw [hnxt]
              have e : l.map vI ++ .int .i64 n :: rsp = (l ++ [n]).map vI ++ rsp := by rw [List.map_append, List.append_assoc]; rfl
              rw [e]
              exact SubL.refl _))
      · skip
        have hsk : skipV p l byes n = false := hs'.symm.trans h10
        have hst0 : stepV p f l byes n = moreV p (rkV p) f (l ++ [n]) (leftB byes n) := by rw [stepV, hsk]; rfl
        have hl0 : 0 ≤ leftB byes n := by
          simp only [skipV, Bool.or_eq_false_iff, decide_eq_false_iff_not] at hsk
          omega
        have hl1 : leftB byes n ≤ 100 := by unfold leftB; cases decide (n = -1) <;> simp only [cond_true, cond_false] <;> omega
        obtain ⟨s0, sp1, hsp1⟩ : ∃ s0 sp1, z.sp = s0 :: sp1 := by
          cases hh : z.sp with
          | nil => rw [hh] at hz2; simp at hz2
          | cons s t => exact ⟨s, t, rfl⟩
        have hcs2 : (l.map vI ++ z.sp).set l.length (.int .i64 n) = (l ++ [n]).map vI ++ sp1 := by
          rw [hsp1, List.set_append_right _ _ (by simp), List.length_map, Nat.sub_self, List.set_cons_zero, List.map_append, List.append_assoc]; rfl
        have hspl1 : sp1.length = f := by rw [hsp1] at hz2; simpa using hz2
        refine skp (h := ?_)
        refine q_seq (h := ?_)
        refine sq (h := ?_)
        refine rgD (by kernel_rfl) [(1000000, .blk bm 56 [.func (.func 85) #[] #[.pointer (some ⟨bp, 0, none⟩), .pointer (some ⟨by_, 0, none⟩), .pointer (some ⟨br, 0, none⟩), .pointer (some ⟨bm, 0, none⟩)]])] (by repeat (first | exact HS.nil | (apply HS.keep; (repeat (first | exact At.here | apply At.there))) | (apply HS.ro; (repeat (first | exact Rds.ro | exact Rds.own | apply Rds.there))))) (h := ?_)
        refine tk 0 (hy := (by first | exact ld | exact ldE)) (h := ?_)
        refine tk 1 (hy := mv) (h := ?_)
        refine tk 2 (hy := mv) (h := ?_)
        refine tk 5 (hy := mv) (h := ?_)
        refine one 3 (h := ?_)
        refine bs (h := fun b0 => ?_)
        refine nx (h := ?_)
        refine one 4 (h := ?_)
        refine apIn (g := g) (m := l.length) (c := p.size.toNat) (v := .int .i64 n) (ha := (by repeat (first | exact At.here | apply At.there))) (hr := (by repeat (first | exact Rds.own | apply Rds.there))) (hroom := by omega) (hlen := by rw [List.length_append, List.length_map, hz2]; omega) (h := ?_)
        rw [hcs2]
        refine nx (h := ?_)
        refine one 6 (h := ?_)
        refine clX (f := 85) inferInstance (fi := []) (cap := [.pointer (some ⟨bp, 0, none⟩), .pointer (some ⟨by_, 0, none⟩), .pointer (some ⟨br, 0, none⟩), .pointer (some ⟨bm, 0, none⟩)]) (by exact rfl) (by repeat (first | exact Evs.nil | (apply Evs.cons; exact rfl))) (fun w hS => by
          have hc := ih (l ++ [n]) (leftB byes n) sp1 (k0 + cntV p f l byes z.i) z.y w (by rw [List.length_append]; simp; omega) hspl1 ⟨hl0, hl1⟩ (fun x hx => by
            rcases List.mem_append.1 hx with hx | hx
            · exact hin x hx
            · simp only [List.mem_singleton] at hx; subst hx; exact hnr) (fun j v hj => by
            rw [← hst0] at hj
            have := hD _ _ (more_at p hn1 hj)
            rwa [← Nat.add_assoc] at this) hz3 (hS.sub (by repeat (first | exact SubL.nil | (apply SubL.cons; (repeat (first | exact At.here | apply At.there))) | exact SubL.refl _ | apply SubL.skip)))
          rw [List.length_append] at hc
          exact hc) (by rfl) (h := fun r hr => ?_)
        refine nx (h := ?_)
        refine tk 7 (hy := notB) (h := ?_)
        refine dn (h := ?_)
        refine q_seq (h := ?_)
        refine cd (by exact rfl) (fun h11 => ?_) (fun h11 => ?_)
        · skip
          obtain ⟨rb, ry, rsp⟩ := r
          obtain rfl : rb = false := by simpa using h11
          obtain ⟨hr1, hr2⟩ := hr
          refine sq (h := ?_)
          refine rg (h := ?_)
          refine WL.y (hy := asg) (h := ?_)
          refine nl (h := ?_)
          refine q_seq (h := ?_)
          refine rtn (h := ?_)
          refine q_blk_ret (h := ?_)
          refine q_then_ret (h := ?_)
          refine q_then_ret (h := ?_)
          refine q_blk_ret (h := ?_)
          refine q_then_ret (h := ?_)
          refine q_retM0 (hR := ?_)
          exact fun w hS => ⟨⟨false, ry, .int .i64 n :: rsp⟩, ⟨by simp only [List.length_cons]; exact congrArg (· + 1) hr1, hr2⟩, rfl, by
            have e : l.map vI ++ .int .i64 n :: rsp = (l ++ [n]).map vI ++ rsp := by rw [List.map_append, List.append_assoc]; rfl
            rw [e]; exact hS⟩
        · skip
          obtain ⟨rb, ry, rsp⟩ := r
          obtain rfl : rb = true := by simpa using h11
          obtain ⟨hr1, hr2⟩ := hr
          have hnxt : k0 + cntV p f l byes (z.i + 1) = k0 + cntV p f l byes z.i + (moreV p (rkV p) f (l ++ [n]) (leftB byes n)).length := by rw [hcs, hst0]; omega
          refine skp (h := ?_)
          refine q_blk_norm (h := ?_)
          refine q_seq (h := ?_)
          refine rg (h := ?_)
          refine WL.y (hy := addI) (h := ?_)
          refine WL.y (hy := mv) (h := ?_)
          refine nl (h := ?_)
          first
            | (refine rn (x := z) ⟨z.i + 1, z.y, z.sp⟩ ⟨by dsimp only; omega, hz2, by dsimp only; rw [hcs, hst0]; exact hz3⟩ (by dsimp only; omega) (by repeat (first | exact trivial | refine ⟨rfl, ?_⟩)) (by dsimp only; rw [hcs, hst0]; exact SubL.refl _))
            | (refine rn (x := z) ⟨z.i + 1, ry, .int .i64 n :: rsp⟩ ⟨by dsimp only; omega, by simp only [List.length_cons]; exact congrArg (· + 1) hr1, by dsimp only; rw [hnxt]; exact hr2⟩ (by dsimp only; omega) (by repeat (first | exact trivial | refine ⟨rfl, ?_⟩)) (by
                dsimp only
                rw [hnxt]
                have e : l.map vI ++ .int .i64 n :: rsp = (l ++ [n]).map vI ++ rsp := by rw [List.map_append, List.append_assoc]; rfl
                rw [e]
                exact SubL.refl _))
    · skip
      have hkn : z.i = (rkV p).length := by simp only [decide_eq_false_iff_not] at h1; omega
      have hfin : k0 + cntV p f l byes z.i = k0 + (moreV p (rkV p) (f + 1) l byes).length := by rw [hkn]; unfold cntV; rw [List.take_length]; rfl
      refine et (h := ?_)
      refine q_then_exit (h := ?_)
      refine q_then_exit (h := ?_)
      refine q_blk_hit (h := ?_)
      refine q_seq (h := ?_)
      refine sq (h := ?_)
      refine rg (h := ?_)
      refine WL.y (hy := asg) (h := ?_)
      refine nl (h := ?_)
      refine q_seq (h := ?_)
      refine rtn (h := ?_)
      refine q_retM0 (hR := ?_)
      exact fun w hS => ⟨⟨true, z.y, z.sp⟩, ⟨hz2, by rw [← hfin]; exact hz3⟩, rfl, by rw [← hfin]; exact hS⟩
end
end Go.Proofs.Ytjkoaifjmcgpfaa
