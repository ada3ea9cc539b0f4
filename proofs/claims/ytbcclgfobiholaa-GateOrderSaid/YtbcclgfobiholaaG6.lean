/- Walks of gate, six: groups join the queue. -/
import Derived.Test.YtbcclgfobiholaaG5
namespace Go.Proofs.Ytbcclgfobiholaa
open Go Go.RowKit

def firstN (s : Cr) : Nat := bif decide (0 < s.passing) then 1 else 0
def arrV (gs : List Pt) (minute i : Int) : Bool := match gs[i.toNat]? with
  | some g => decide (g.at_ = minute) && !goneV gs minute i
  | none => false
def keptV (gs : List Pt) (minute : Int) (s : Cr) : List Int := s.ws.take (firstN s) ++ (s.ws.drop (firstN s)).filter fun i => !goneV gs minute i
def joinV (gs : List Pt) (ord : List Int) (minute : Int) (s : Cr) : Cr := { s with ws := keptV gs minute s ++ ord.filter (arrV gs minute) }
def joinTo (gs : List Pt) (ord : List Int) (minute : Int) (s : Cr) (k : Nat) : Cr := { s with ws := keptV gs minute s ++ (ord.take k).filter (arrV gs minute) }
structure JZ where
  (k : Nat) (A : Option Addr) (c : Nat)
theorem kept_len (gs : List Pt) (minute : Int) (s : Cr) : (keptV gs minute s).length ≤ s.ws.length := by
  unfold keptV
  have := List.length_filter_le (fun i => !goneV gs minute i) (s.ws.drop (firstN s))
  rw [List.length_append, List.length_take]
  rw [List.length_drop] at this
  omega
abbrev joinL (q : Qu) (a : QA) (x : CA) (ord : List Int) (s : Cr) (b : Nat) : List Ent := crE q a x ord s b ++ [.ro a.gA 4 q.gs.length (encPt q.gs)]
set_option maxHeartbeats 2000000 in
theorem T_joinE (q : Qu) (a : QA) (x : CA) (ord : List Int) (s : Cr) (b : Nat) (minute : Int) (hin : ∀ i ∈ ord, 0 ≤ i ∧ i < q.gs.length) (hws : ∀ i ∈ s.ws, 0 ≤ i ∧ i < q.gs.length) (hpw : firstN s ≤ s.ws.length) (hl : s.ws.length ≤ 1000 ∧ ord.length ≤ 1000)
    (h0 : s.ws.drop (firstN s) = []) (hwc : s.ws.length ≤ x.wc) (hAn : x.wA = none → firstN s = 0 ∧ x.wc = 0) :
    Tr Try.prog 56 [.pointer (some ⟨b, 0, none⟩), .int .i64 minute] [.blk b 85 (crC q a x ord s), .own x.oA x.oc 3 1 ord.length (enI ord), wtE 3 x.wA s.ws.length x.wc s.ws, .own x.iA x.ic 3 1 s.inn.length (enI s.inn), .ro a.gA 4 q.gs.length (encPt q.gs)] (fun _ : CA => True) (fun _ => .tuple #[]) (fun x' => (joinL q a x' ord (joinV q.gs ord minute s) b)) := by
  refine ⟨fun w0 w R hst => ?_⟩
  have hkept := kept_len q.gs minute s
  have hf : firstN s = s.ws.length := by
    have h1 := congrArg List.length h0
    rw [List.length_drop] at h1
    simp only [List.length_nil] at h1
    have h2 : firstN s ≤ s.ws.length := hpw
    omega
  have hk0 : (joinTo q.gs ord minute s 0).ws = s.ws := by
    show keptV q.gs minute s ++ ([] : List Int).filter _ = s.ws
    rw [keptV, h0, hf, List.take_length]; simp
  have hd0 : s.ws.length - firstN s = 0 := by omega
  refine en Try.func56 Try.ntmps56 hst (h := fun F => ?_)
  refine sq (h := ?_)
  refine rg (h := ?_)
  refine bx (h := fun b0 => ?_)
  refine bx (h := fun b1 => ?_)
  refine nl (h := ?_)
  refine q_seq (h := ?_)
  refine sq (h := ?_)
  refine rg (h := ?_)
  refine WL.y (hy := asg) (h := ?_)
  refine nl (h := ?_)
  refine q_seq (h := ?_)
  refine ct (X := Unit) (fun _ => True) (fun _ => [(2, .pointer (some ⟨b0, 0, none⟩)), (3, .pointer (some ⟨b1, 0, none⟩)), (4, .int .i64 (firstN s))]) (fun _ => .blk b0 82 [.pointer (some ⟨b, 0, none⟩)] :: .blk b1 3 [.int .i64 minute] :: .blk b 85 (crC q a x ord s) :: .own x.oA x.oc 3 1 ord.length (enI ord) :: wtE 3 x.wA s.ws.length x.wc s.ws :: .own x.iA x.ic 3 1 s.inn.length (enI s.inn) :: .ro a.gA 4 q.gs.length (encPt q.gs) :: R) (h1 := ?_) (h2 := ?_)
  · skip
    refine sq (h := ?_)
    refine rg (h := ?_)
    refine WL.y (hy := (by first | exact ld | exact ldE)) (h := ?_)
    refine WL.y (hy := nck) (h := ?_)
    refine WL.y (hy := (by first | exact fa | exact faE)) (h := ?_)
    refine WL.y (hy := (by first | exact ld | exact ldE)) (h := ?_)
    refine WL.y (hy := gtr) (h := ?_)
    refine nl (h := ?_)
    refine q_seq (h := ?_)
    refine cd (by exact rfl) (fun h0 => ?_) (fun h0 => ?_)
    · skip
      have hfn : firstN s = 1 := by rw [firstN, h0]; rfl
      refine rg (h := ?_)
      refine WL.y (hy := asg) (h := ?_)
      refine nl (h := ?_)
      exact ctn () trivial (by repeat (first | exact trivial | refine ⟨rfl, ?_⟩ | refine ⟨by rw [hfn]; rfl, ?_⟩)) (by repeat (first | exact SubL.nil | (apply SubL.cons; (repeat (first | exact At.here | apply At.there))) | exact SubL.refl _ | apply SubL.skip))
    · skip
      have hfn : firstN s = 0 := by rw [firstN, h0]; rfl
      refine skp (h := ?_)
      exact ctn () trivial (by repeat (first | exact trivial | refine ⟨rfl, ?_⟩ | refine ⟨by rw [hfn]; rfl, ?_⟩)) (by repeat (first | exact SubL.nil | (apply SubL.cons; (repeat (first | exact At.here | apply At.there))) | exact SubL.refl _ | apply SubL.skip))
  rintro ⟨⟩ -
  refine sq (h := ?_)
  refine rg (h := ?_)
  refine WL.y (hy := mkf) (h := ?_)
  refine WL.y (hy := asg) (h := ?_)
  refine nl (h := ?_)
  refine q_seq (h := ?_)
  refine ct (X := Option Addr × Nat) (fun _ => True) (fun _ => [(2, .pointer (some ⟨b0, 0, none⟩)), (3, .pointer (some ⟨b1, 0, none⟩)), (5, .func (.func 65) #[] #[.pointer (some ⟨b0, 0, none⟩), .pointer (some ⟨b1, 0, none⟩)])]) (fun y => .blk b0 82 [.pointer (some ⟨b, 0, none⟩)] :: .blk b1 3 [.int .i64 minute] :: .blk b 85 (crC q a { x with wA := y.1, wc := y.2 } ord (joinTo q.gs ord minute s 0)) :: .own x.oA x.oc 3 1 ord.length (enI ord) :: wtE 3 y.1 (joinTo q.gs ord minute s 0).ws.length y.2 (joinTo q.gs ord minute s 0).ws :: .own x.iA x.ic 3 1 s.inn.length (enI s.inn) :: .ro a.gA 4 q.gs.length (encPt q.gs) :: R) (h1 := ?_) (h2 := ?_)
  · skip
    refine rgD (by kernel_rfl) [(18, .blk b 85 (crC q a x ord s)), (1000000, .blk b0 82 [.pointer (some ⟨b, 0, none⟩)])] (by repeat (first | exact HS.nil | (apply HS.keep; (repeat (first | exact At.here | apply At.there))) | (apply HS.ro; (repeat (first | exact Rds.ro | exact Rds.own | apply Rds.there))))) (h := ?_)
    refine tk 0 (hy := (by first | exact ld | exact ldE)) (h := ?_)
    refine tk 1 (hy := (by first | exact ld | exact ldE)) (h := ?_)
    refine tk 2 (hy := nck) (h := ?_)
    refine tk 3 (hy := (by first | exact fa | exact faE)) (h := ?_)
    refine tk 4 (hy := (by first | exact ld | exact ldE)) (h := ?_)
    refine tk 5 (hy := mv) (h := ?_)
    refine tk 6 (hy := slP (A := x.wA) (m := s.ws.length) (cap := x.wc) (hi' := firstN s) (hc := by omega)) (h := ?_)
    refine tk 7 (hy := (by first | exact ld | exact ldE)) (h := ?_)
    refine tk 8 (hy := nck) (h := ?_)
    refine tk 9 (hy := (by first | exact fa | exact faE)) (h := ?_)
    refine tk 10 (hy := (by first | exact ld | exact ldE)) (h := ?_)
    refine tk 11 (hy := mv) (h := ?_)
    refine tk 12 (hy := Yd.to (slA (A := x.wA) (m := s.ws.length) (cap := x.wc) (lo' := firstN s) (hlo := by omega)) (v' := .slice (if x.wc = firstN s then x.wA else x.wA.map (·.add (firstN s * 1))) 0 (x.wc - firstN s)) (by rw [hd0])) (h := ?_)
    refine tk 13 (hy := mv) (h := ?_)
    refine one 14 (h := ?_)
    refine cl0 (hc := fun w hS => T_Delete0 inferInstance [] [.pointer (some ⟨b0, 0, none⟩), .pointer (some ⟨b1, 0, none⟩)] _ _ w) (h := ?_)
    refine nx (h := ?_)
    refine one 15 (h := ?_)
    refine ap00 (A := x.wA) (m := firstN s) (c := x.wc) (hm := by omega) (hA := hAn) (h := ?_)
    refine nx (h := ?_)
    refine tk 16 (hy := nck) (h := ?_)
    refine tk 17 (hy := (by first | exact fa | exact faE)) (h := ?_)
    refine one 18 (h := ?_)
    first | refine st (h := ?_) | refine stE (h := ?_)
    refine nx (h := ?_)
    refine dn (h := ?_)
    exact ctn (x.wA, x.wc) trivial (by repeat (first | exact trivial | refine ⟨rfl, ?_⟩)) (by dsimp only [crC]; rw [hk0, ← hf]; repeat (first | exact SubL.nil | (apply SubL.cons; (repeat (first | exact At.here | apply At.there))) | exact SubL.refl _ | apply SubL.skip))
  rintro ⟨A1, c1⟩ -
  dsimp only [crC]
  refine sq (h := ?_)
  refine rg (h := ?_)
  refine WL.y (hy := (by first | exact ld | exact ldE)) (h := ?_)
  refine WL.y (hy := nck) (h := ?_)
  refine WL.y (hy := (by first | exact fa | exact faE)) (h := ?_)
  refine WL.y (hy := (by first | exact ld | exact ldE)) (h := ?_)
  refine WL.y (hy := lenS) (h := ?_)
  refine WL.y (hy := mv) (h := ?_)
  refine nl (h := ?_)
  refine q_seq (h := ?_)
  refine bk (h := ?_)
  refine lp (X := JZ) (I := fun z => z.k ≤ ord.length) (le := fun z => [(2, .pointer (some ⟨b0, 0, none⟩)), (3, .pointer (some ⟨b1, 0, none⟩)), (5, .func (.func 65) #[] #[.pointer (some ⟨b0, 0, none⟩), .pointer (some ⟨b1, 0, none⟩)]), (35, .slice x.oA ord.length x.oc), (36, .int .i64 ord.length), (37, .int .i64 z.k)]) (Le := fun z => .blk b0 82 [.pointer (some ⟨b, 0, none⟩)] :: .blk b1 3 [.int .i64 minute] :: .blk b 85 (crC q a { x with wA := z.A, wc := z.c } ord (joinTo q.gs ord minute s z.k)) :: .own x.oA x.oc 3 1 ord.length (enI ord) :: wtE 3 z.A (joinTo q.gs ord minute s z.k).ws.length z.c (joinTo q.gs ord minute s z.k).ws :: .own x.iA x.ic 3 1 s.inn.length (enI s.inn) :: .ro a.gA 4 q.gs.length (encPt q.gs) :: R) (μ := fun z => ord.length - z.k) ⟨0, A1, c1⟩ (Nat.zero_le _) (by repeat (first | exact trivial | refine ⟨rfl, ?_⟩)) (by repeat (first | exact SubL.nil | (apply SubL.cons; (repeat (first | exact At.here | apply At.there))) | exact SubL.refl _ | apply SubL.skip)) (fun z hz => ?_)
  refine sq (h := ?_)
  refine rg (h := ?_)
  refine WL.y (hy := lss) (h := ?_)
  refine nl (h := ?_)
  refine q_seq (h := ?_)
  refine sq (h := ?_)
  refine cd (by exact rfl) (fun h1 => ?_) (fun h1 => ?_)
  · skip
    have hkn : z.k < ord.length := by simp only [decide_eq_true_eq] at h1; omega
    obtain ⟨i, hi⟩ : ∃ i, ord[z.k]? = some i := ⟨_, List.getElem?_eq_getElem hkn⟩
    have hie := enI_at hi
    have hir := hin i (List.mem_of_getElem? hi)
    obtain ⟨p, hp⟩ : ∃ p, q.gs[i.toNat]? = some p := ⟨_, List.getElem?_eq_getElem (by omega)⟩
    have hpe := encPt_at hp
    have hjl : (joinTo q.gs ord minute s z.k).ws.length ≤ 2000 := by
      have := List.length_filter_le (arrV q.gs minute) (ord.take z.k)
      rw [List.length_take] at this
      show (keptV q.gs minute s ++ (ord.take z.k).filter (arrV q.gs minute)).length ≤ 2000
      rw [List.length_append]; omega
    have hstep : (joinTo q.gs ord minute s (z.k + 1)).ws = (joinTo q.gs ord minute s z.k).ws ++ (bif arrV q.gs minute i then [i] else []) := by
      show keptV q.gs minute s ++ (ord.take (z.k + 1)).filter (arrV q.gs minute) = keptV q.gs minute s ++ (ord.take z.k).filter (arrV q.gs minute) ++ _
      rw [filter_take_succ _ hi, List.append_assoc]
    have harr : arrV q.gs minute i = (decide (p.at_ = minute) && !goneV q.gs minute i) := by rw [arrV, hp]
    refine skp (h := ?_)
    refine q_seq (h := ?_)
    refine sq (h := ?_)
    refine bk (h := ?_)
    refine sq (h := ?_)
    refine rg (h := ?_)
    refine WL.y (hy := ix (A := x.oA) (m := ord.length)) (h := ?_)
    refine WL.y (hy := ldE (A := x.oA) (hk := hie)) (h := ?_)
    refine WL.y (hy := asg) (h := ?_)
    refine nl (h := ?_)
    refine q_seq (h := ?_)
    refine sq (h := ?_)
    refine rgD (by kernel_rfl) [(1000000, .blk b0 82 [.pointer (some ⟨b, 0, none⟩)]), (1000000, .blk b1 3 [.int .i64 minute]), (1000000, .blk b 85 (crC q a { x with wA := z.A, wc := z.c } ord (joinTo q.gs ord minute s z.k))), (1000000, .ro a.gA 4 q.gs.length (encPt q.gs))] (by repeat (first | exact HS.nil | (apply HS.keep; (repeat (first | exact At.here | apply At.there))) | (apply HS.ro; (repeat (first | exact Rds.ro | exact Rds.own | apply Rds.there))))) (h := ?_)
    refine tk 0 (hy := (by first | exact ld | exact ldE)) (h := ?_)
    refine tk 1 (hy := nck) (h := ?_)
    refine tk 2 (hy := (by first | exact fa | exact faE)) (h := ?_)
    refine tk 3 (hy := (by first | exact fa | exact faE)) (h := ?_)
    refine tk 4 (hy := (by first | exact ld | exact ldE)) (h := ?_)
    refine tk 5 (hy := mv) (h := ?_)
    refine tk 6 (hy := ix (A := a.gA) (m := q.gs.length)) (h := ?_)
    refine tk 7 (hy := (by first | exact fa | exact faE)) (h := ?_)
    refine tk 8 (hy := ldE (A := a.gA) (hk := hpe)) (h := ?_)
    refine tk 9 (hy := (by first | exact ld | exact ldE)) (h := ?_)
    refine tk 10 (hy := eql) (h := ?_)
    refine tk 11 (hy := mv) (h := ?_)
    refine brH (g := 52) (by exact rfl) (fun hb2 => ?_) (fun hb2 => ?_)
    · skip
      have hat : decide (p.at_ = minute) = true := hb2
      refine tk 12 (hy := mv) (h := ?_)
      refine tk 13 (hy := mv) (h := ?_)
      refine one 14 (h := ?_)
      refine un (h := ?_)
      refine clfT inferInstance (fi := []) (cap := [.pointer (some ⟨b0, 0, none⟩), .pointer (some ⟨b1, 0, none⟩)]) (by exact rfl) (by repeat (first | exact Evs.nil | (apply Evs.cons; exact rfl))) (T_gone q a { x with wA := z.A, wc := z.c } ord (joinTo q.gs ord minute s z.k) b b0 b1 minute i hir) rfl (by repeat (first | exact Spl.nil | (apply Spl.cons; (repeat (first | exact At.here | apply At.there))))) (h := fun _ _ => ?_)
      refine nx (h := ?_)
      refine tk 15 (hy := notB) (h := ?_)
      refine tk 16 (hy := (by first | exact pkT | exact pkF)) (h := ?_)
      refine dn (h := ?_)
      refine q_seq (h := ?_)
      refine cd (by exact rfl) (fun h3 => ?_) (fun h3 => ?_)
      · skip
        have hstep1 : (joinTo q.gs ord minute s (z.k + 1)).ws = (joinTo q.gs ord minute s z.k).ws ++ [i] := by rw [hstep, harr, hat, h3]; rfl
        have hsl1 : (joinTo q.gs ord minute s (z.k + 1)).ws.length = (joinTo q.gs ord minute s z.k).ws.length + 1 := by rw [hstep1]; simp
        refine rgD (by kernel_rfl) [(1000000, .blk b0 82 [.pointer (some ⟨b, 0, none⟩)]), (10, .blk b 85 (crC q a { x with wA := z.A, wc := z.c } ord (joinTo q.gs ord minute s z.k)))] (by repeat (first | exact HS.nil | (apply HS.keep; (repeat (first | exact At.here | apply At.there))) | (apply HS.ro; (repeat (first | exact Rds.ro | exact Rds.own | apply Rds.there))))) (h := ?_)
        refine tk 0 (hy := (by first | exact ld | exact ldE)) (h := ?_)
        refine tk 1 (hy := (by first | exact ld | exact ldE)) (h := ?_)
        refine tk 2 (hy := nck) (h := ?_)
        refine tk 3 (hy := (by first | exact fa | exact faE)) (h := ?_)
        refine tk 4 (hy := (by first | exact ld | exact ldE)) (h := ?_)
        refine tk 5 (hy := mv) (h := ?_)
        refine one 6 (h := ?_)
        refine bs (h := fun ub => ?_)
        refine nx (h := ?_)
        refine one 7 (h := ?_)
        refine apW (A := z.A) (c := z.c) (ws := (joinTo q.gs ord minute s z.k).ws) (xs := [i]) (m := (joinTo q.gs ord minute s z.k).ws.length) (k := 1) (ha := (by repeat (first | exact At.here | apply At.there))) (hr := by repeat (first | exact Rds.own | apply Rds.there)) (hb := by omega) (hlm := by omega) (h := fun A2 c2 => ?_)
        refine nx (h := ?_)
        refine tk 8 (hy := nck) (h := ?_)
        refine tk 9 (hy := (by first | exact fa | exact faE)) (h := ?_)
        refine one 10 (h := ?_)
        first | refine st (h := ?_) | refine stE (h := ?_)
        refine nx (h := ?_)
        refine dn (h := ?_)
        refine q_blk_norm (h := ?_)
        refine q_seq (h := ?_)
        refine rg (h := ?_)
        refine WL.y (hy := addI) (h := ?_)
        refine WL.y (hy := mv) (h := ?_)
        refine nl (h := ?_)
        first
          | (refine rn (x := z) ⟨z.k + 1, A2, c2⟩ (by dsimp only; omega) (by dsimp only; omega) (by repeat (first | exact trivial | refine ⟨rfl, ?_⟩)) (by dsimp only [crC]; rw [hsl1, hstep1]; repeat (first | exact SubL.nil | (apply SubL.cons; (repeat (first | exact At.here | apply At.there))) | exact SubL.refl _ | apply SubL.skip)))
          | (refine rn (x := z) ⟨z.k + 1, z.A, z.c⟩ (by dsimp only; omega) (by dsimp only; omega) (by repeat (first | exact trivial | refine ⟨rfl, ?_⟩)) (by dsimp only [crC]; rw [hstep0]; repeat (first | exact SubL.nil | (apply SubL.cons; (repeat (first | exact At.here | apply At.there))) | exact SubL.refl _ | apply SubL.skip)))
      · skip
        first
          | (have hstep0 : (joinTo q.gs ord minute s (z.k + 1)).ws = (joinTo q.gs ord minute s z.k).ws := by rw [hstep, harr, hat, ‹(!goneV q.gs minute i) = false›]; simp)
          | skip
        refine skp (h := ?_)
        refine q_blk_norm (h := ?_)
        refine q_seq (h := ?_)
        refine rg (h := ?_)
        refine WL.y (hy := addI) (h := ?_)
        refine WL.y (hy := mv) (h := ?_)
        refine nl (h := ?_)
        first
          | (refine rn (x := z) ⟨z.k + 1, A2, c2⟩ (by dsimp only; omega) (by dsimp only; omega) (by repeat (first | exact trivial | refine ⟨rfl, ?_⟩)) (by dsimp only [crC]; rw [hsl1, hstep1]; repeat (first | exact SubL.nil | (apply SubL.cons; (repeat (first | exact At.here | apply At.there))) | exact SubL.refl _ | apply SubL.skip)))
          | (refine rn (x := z) ⟨z.k + 1, z.A, z.c⟩ (by dsimp only; omega) (by dsimp only; omega) (by repeat (first | exact trivial | refine ⟨rfl, ?_⟩)) (by dsimp only [crC]; rw [hstep0]; repeat (first | exact SubL.nil | (apply SubL.cons; (repeat (first | exact At.here | apply At.there))) | exact SubL.refl _ | apply SubL.skip)))
    · skip
      have hstep0 : (joinTo q.gs ord minute s (z.k + 1)).ws = (joinTo q.gs ord minute s z.k).ws := by rw [hstep, harr, show decide (p.at_ = minute) = false from hb2]; simp
      refine tkS 12 (h := ?_)
      refine tkS 13 (h := ?_)
      refine tkS 14 (h := ?_)
      refine tkS 15 (h := ?_)
      refine tk 16 (hy := (by first | exact pkT | exact pkF)) (h := ?_)
      refine dn (h := ?_)
      refine q_seq (h := ?_)
      refine cdF (h := ?_)
      first
        | (have hstep0 : (joinTo q.gs ord minute s (z.k + 1)).ws = (joinTo q.gs ord minute s z.k).ws := by rw [hstep, harr, hat, ‹(!goneV q.gs minute i) = false›]; simp)
        | skip
      refine skp (h := ?_)
      refine q_blk_norm (h := ?_)
      refine q_seq (h := ?_)
      refine rg (h := ?_)
      refine WL.y (hy := addI) (h := ?_)
      refine WL.y (hy := mv) (h := ?_)
      refine nl (h := ?_)
      first
        | (refine rn (x := z) ⟨z.k + 1, A2, c2⟩ (by dsimp only; omega) (by dsimp only; omega) (by repeat (first | exact trivial | refine ⟨rfl, ?_⟩)) (by dsimp only [crC]; rw [hsl1, hstep1]; repeat (first | exact SubL.nil | (apply SubL.cons; (repeat (first | exact At.here | apply At.there))) | exact SubL.refl _ | apply SubL.skip)))
        | (refine rn (x := z) ⟨z.k + 1, z.A, z.c⟩ (by dsimp only; omega) (by dsimp only; omega) (by repeat (first | exact trivial | refine ⟨rfl, ?_⟩)) (by dsimp only [crC]; rw [hstep0]; repeat (first | exact SubL.nil | (apply SubL.cons; (repeat (first | exact At.here | apply At.there))) | exact SubL.refl _ | apply SubL.skip)))
  · skip
    have hkn : z.k = ord.length := by simp only [decide_eq_false_iff_not] at h1; omega
    have hfin : joinTo q.gs ord minute s z.k = joinV q.gs ord minute s := by rw [joinTo, hkn, List.take_length]; rfl
    rw [hfin]
    refine et (h := ?_)
    refine q_then_exit (h := ?_)
    refine q_then_exit (h := ?_)
    refine q_blk_hit (h := ?_)
    refine q_end (hR := ?_)
    exact fun w hS => ⟨{ x with wA := z.A, wc := z.c }, trivial, rfl, hS.sub (by repeat (first | exact SubL.nil | (apply SubL.cons; (repeat (first | exact At.here | apply At.there))) | exact SubL.refl _ | apply SubL.skip))⟩
set_option maxHeartbeats 2000000 in
theorem T_joinF (q : Qu) (a : QA) (x : CA) (ord : List Int) (s : Cr) (b : Nat) (minute : Int) (hin : ∀ i ∈ ord, 0 ≤ i ∧ i < q.gs.length) (hws : ∀ i ∈ s.ws, 0 ≤ i ∧ i < q.gs.length) (hpw : firstN s ≤ s.ws.length) (hl : s.ws.length ≤ 1000 ∧ ord.length ≤ 1000)
    (g : Nat) (pre sp : List Value) (hA : x.wA = some ⟨g, pre.length, none⟩) (h0 : firstN s < s.ws.length) (hwc : s.ws.length ≤ x.wc) (hsp : x.wc ≤ s.ws.length + sp.length) (hcm : x.wc ≤ 9223372036854775807)  :
    Tr Try.prog 56 [.pointer (some ⟨b, 0, none⟩), .int .i64 minute] [.blk b 85 (crC q a x ord s), .own x.oA x.oc 3 1 ord.length (enI ord), .blk g 3 ((pre ++ (s.ws.take (firstN s)).map vI) ++ ((s.ws.drop (firstN s)).map vI ++ sp)), .own x.iA x.ic 3 1 s.inn.length (enI s.inn), .ro a.gA 4 q.gs.length (encPt q.gs)] (fun _ : CA => True) (fun _ => .tuple #[]) (fun x' => (joinL q a x' ord (joinV q.gs ord minute s) b)) := by
  refine ⟨fun w0 w R hst => ?_⟩
  have hkept := kept_len q.gs minute s
  have hA2 : pre.length + firstN s = (pre ++ (s.ws.take (firstN s)).map vI).length := by simp; omega
  have hdl : (s.ws.drop (firstN s)).length = s.ws.length - firstN s := List.length_drop
  have hk0 : (joinTo q.gs ord minute s 0).ws = keptV q.gs minute s := by
    show keptV q.gs minute s ++ ([] : List Int).filter _ = _
    simp
  have hkl : (keptV q.gs minute s).length = firstN s + ((s.ws.drop (firstN s)).filter fun i => !goneV q.gs minute i).length := by
    rw [keptV, List.length_append, List.length_take, Nat.min_eq_left (by omega)]
  have hfl := List.length_filter_le (fun i => !goneV q.gs minute i) (s.ws.drop (firstN s))
  refine en Try.func56 Try.ntmps56 hst (h := fun F => ?_)
  refine sq (h := ?_)
  refine rg (h := ?_)
  refine bx (h := fun b0 => ?_)
  refine bx (h := fun b1 => ?_)
  refine nl (h := ?_)
  refine q_seq (h := ?_)
  refine sq (h := ?_)
  refine rg (h := ?_)
  refine WL.y (hy := asg) (h := ?_)
  refine nl (h := ?_)
  refine q_seq (h := ?_)
  refine ct (X := Unit) (fun _ => True) (fun _ => [(2, .pointer (some ⟨b0, 0, none⟩)), (3, .pointer (some ⟨b1, 0, none⟩)), (4, .int .i64 (firstN s))]) (fun _ => .blk b0 82 [.pointer (some ⟨b, 0, none⟩)] :: .blk b1 3 [.int .i64 minute] :: .blk b 85 (crC q a x ord s) :: .own x.oA x.oc 3 1 ord.length (enI ord) :: .blk g 3 ((pre ++ (s.ws.take (firstN s)).map vI) ++ ((s.ws.drop (firstN s)).map vI ++ sp)) :: .own x.iA x.ic 3 1 s.inn.length (enI s.inn) :: .ro a.gA 4 q.gs.length (encPt q.gs) :: R) (h1 := ?_) (h2 := ?_)
  · skip
    refine sq (h := ?_)
    refine rg (h := ?_)
    refine WL.y (hy := (by first | exact ld | exact ldE)) (h := ?_)
    refine WL.y (hy := nck) (h := ?_)
    refine WL.y (hy := (by first | exact fa | exact faE)) (h := ?_)
    refine WL.y (hy := (by first | exact ld | exact ldE)) (h := ?_)
    refine WL.y (hy := gtr) (h := ?_)
    refine nl (h := ?_)
    refine q_seq (h := ?_)
    refine cd (by exact rfl) (fun h0 => ?_) (fun h0 => ?_)
    · skip
      have hfn : firstN s = 1 := by rw [firstN, h0]; rfl
      refine rg (h := ?_)
      refine WL.y (hy := asg) (h := ?_)
      refine nl (h := ?_)
      exact ctn () trivial (by repeat (first | exact trivial | refine ⟨rfl, ?_⟩ | refine ⟨by rw [hfn]; rfl, ?_⟩)) (by repeat (first | exact SubL.nil | (apply SubL.cons; (repeat (first | exact At.here | apply At.there))) | exact SubL.refl _ | apply SubL.skip))
    · skip
      have hfn : firstN s = 0 := by rw [firstN, h0]; rfl
      refine skp (h := ?_)
      exact ctn () trivial (by repeat (first | exact trivial | refine ⟨rfl, ?_⟩ | refine ⟨by rw [hfn]; rfl, ?_⟩)) (by repeat (first | exact SubL.nil | (apply SubL.cons; (repeat (first | exact At.here | apply At.there))) | exact SubL.refl _ | apply SubL.skip))
  rintro ⟨⟩ -
  refine sq (h := ?_)
  refine rg (h := ?_)
  refine WL.y (hy := mkf) (h := ?_)
  refine WL.y (hy := asg) (h := ?_)
  refine nl (h := ?_)
  refine q_seq (h := ?_)
  refine ct (X := Option Addr × Nat) (fun _ => True) (fun _ => [(2, .pointer (some ⟨b0, 0, none⟩)), (3, .pointer (some ⟨b1, 0, none⟩)), (5, .func (.func 65) #[] #[.pointer (some ⟨b0, 0, none⟩), .pointer (some ⟨b1, 0, none⟩)])]) (fun y => .blk b0 82 [.pointer (some ⟨b, 0, none⟩)] :: .blk b1 3 [.int .i64 minute] :: .blk b 85 (crC q a { x with wA := y.1, wc := y.2 } ord (joinTo q.gs ord minute s 0)) :: .own x.oA x.oc 3 1 ord.length (enI ord) :: wtE 3 y.1 (joinTo q.gs ord minute s 0).ws.length y.2 (joinTo q.gs ord minute s 0).ws :: .own x.iA x.ic 3 1 s.inn.length (enI s.inn) :: .ro a.gA 4 q.gs.length (encPt q.gs) :: R) (h1 := ?_) (h2 := ?_)
  · skip
    refine rgD (by kernel_rfl) [(18, .blk b 85 (crC q a x ord s)), (1000000, .blk b0 82 [.pointer (some ⟨b, 0, none⟩)])] (by repeat (first | exact HS.nil | (apply HS.keep; (repeat (first | exact At.here | apply At.there))) | (apply HS.ro; (repeat (first | exact Rds.ro | exact Rds.own | apply Rds.there))))) (h := ?_)
    refine tk 0 (hy := (by first | exact ld | exact ldE)) (h := ?_)
    refine tk 1 (hy := (by first | exact ld | exact ldE)) (h := ?_)
    refine tk 2 (hy := nck) (h := ?_)
    refine tk 3 (hy := (by first | exact fa | exact faE)) (h := ?_)
    refine tk 4 (hy := (by first | exact ld | exact ldE)) (h := ?_)
    refine tk 5 (hy := mv) (h := ?_)
    refine tk 6 (hy := slP (A := x.wA) (m := s.ws.length) (cap := x.wc) (hi' := firstN s) (hc := by omega)) (h := ?_)
    refine tk 7 (hy := (by first | exact ld | exact ldE)) (h := ?_)
    refine tk 8 (hy := nck) (h := ?_)
    refine tk 9 (hy := (by first | exact fa | exact faE)) (h := ?_)
    refine tk 10 (hy := (by first | exact ld | exact ldE)) (h := ?_)
    refine tk 11 (hy := mv) (h := ?_)
    refine tk 12 (hy := Yd.to (slB (g := g) (o := pre.length) (m := s.ws.length) (cap := x.wc) (lo' := firstN s) (hlo := by omega) (hlc := by omega) (hx := by rw [← hA]; exact rfl)) (v' := .slice (some ⟨g, (pre ++ (s.ws.take (firstN s)).map vI).length, none⟩) (s.ws.length - firstN s) (x.wc - firstN s)) (by rw [hA2])) (h := ?_)
    refine tk 13 (hy := mv) (h := ?_)
    refine one 14 (h := ?_)
    refine clT (hc := T_DeleteFunc (g := 65) inferInstance [] [.pointer (some ⟨b0, 0, none⟩), .pointer (some ⟨b1, 0, none⟩)] (goneL q a x ord s b b0 b1 minute) (goneV q.gs minute) g (pre ++ (s.ws.take (firstN s)).map vI) sp (s.ws.drop (firstN s)) (s.ws.length - firstN s) (x.wc - firstN s) hdl (by omega) (by omega) (fun i hi => T_gone q a x ord s b b0 b1 minute i (hws i (List.mem_of_mem_drop hi)))) (hs := (by repeat (first | exact Spl.nil | (apply Spl.cons; (repeat (first | exact At.here | apply At.there)))))) (h := fun sp1 hsp1 => ?_)
    refine nx (h := ?_)
    refine one 15 (h := ?_)
    rw [hA]
    refine apSelf (g := g) (o := pre.length) (m := firstN s) (k := ((s.ws.drop (firstN s)).filter fun i => !goneV q.gs minute i).length) (c := x.wc) (news := ((s.ws.drop (firstN s)).filter fun i => !goneV q.gs minute i).map vI) (ha := (by repeat (first | exact At.here | apply At.there))) (hA2 := .inr (by rw [hA2])) (hl := by simp) (hnews := fun j v hj => by rw [hA2, List.getElem?_append_right (by omega), Nat.add_sub_cancel_left, List.getElem?_append_left (List.getElem?_eq_some_iff.1 hj).1]; exact hj) (hone := fun v hv => by obtain ⟨y, _, rfl⟩ := List.mem_map.1 hv; rfl) (hroom := by omega) (h := ?_)
    refine nx (h := ?_)
    refine tk 16 (hy := nck) (h := ?_)
    refine tk 17 (hy := (by first | exact fa | exact faE)) (h := ?_)
    refine one 18 (h := ?_)
    first | refine st (h := ?_) | refine stE (h := ?_)
    refine nx (h := ?_)
    refine dn (h := ?_)
    refine WQ.turn (hst := fun w h => (St.wtShut (g := g) (pre := pre) (sp := sp1) (ws := keptV q.gs minute s) (n := (keptV q.gs minute s).length) (cap := x.wc) (by rw [show pre ++ ((keptV q.gs minute s).map vI ++ sp1) = (pre ++ (s.ws.take (firstN s)).map vI) ++ (((s.ws.drop (firstN s)).filter fun i => !goneV q.gs minute i).map vI ++ sp1) by simp [keptV]]; exact h) rfl (by omega) (by omega) hcm)) (by repeat (first | exact At.here | apply At.there)) ?_
    exact ctn (some ⟨g, pre.length, none⟩, x.wc) trivial (by repeat (first | exact trivial | refine ⟨rfl, ?_⟩)) (by dsimp only [crC]; rw [hk0, ← hkl]; repeat (first | exact SubL.nil | (apply SubL.cons; (repeat (first | exact At.here | apply At.there))) | exact SubL.refl _ | apply SubL.skip))
  rintro ⟨A1, c1⟩ -
  dsimp only [crC]
  refine sq (h := ?_)
  refine rg (h := ?_)
  refine WL.y (hy := (by first | exact ld | exact ldE)) (h := ?_)
  refine WL.y (hy := nck) (h := ?_)
  refine WL.y (hy := (by first | exact fa | exact faE)) (h := ?_)
  refine WL.y (hy := (by first | exact ld | exact ldE)) (h := ?_)
  refine WL.y (hy := lenS) (h := ?_)
  refine WL.y (hy := mv) (h := ?_)
  refine nl (h := ?_)
  refine q_seq (h := ?_)
  refine bk (h := ?_)
  refine lp (X := JZ) (I := fun z => z.k ≤ ord.length) (le := fun z => [(2, .pointer (some ⟨b0, 0, none⟩)), (3, .pointer (some ⟨b1, 0, none⟩)), (5, .func (.func 65) #[] #[.pointer (some ⟨b0, 0, none⟩), .pointer (some ⟨b1, 0, none⟩)]), (35, .slice x.oA ord.length x.oc), (36, .int .i64 ord.length), (37, .int .i64 z.k)]) (Le := fun z => .blk b0 82 [.pointer (some ⟨b, 0, none⟩)] :: .blk b1 3 [.int .i64 minute] :: .blk b 85 (crC q a { x with wA := z.A, wc := z.c } ord (joinTo q.gs ord minute s z.k)) :: .own x.oA x.oc 3 1 ord.length (enI ord) :: wtE 3 z.A (joinTo q.gs ord minute s z.k).ws.length z.c (joinTo q.gs ord minute s z.k).ws :: .own x.iA x.ic 3 1 s.inn.length (enI s.inn) :: .ro a.gA 4 q.gs.length (encPt q.gs) :: R) (μ := fun z => ord.length - z.k) ⟨0, A1, c1⟩ (Nat.zero_le _) (by repeat (first | exact trivial | refine ⟨rfl, ?_⟩)) (by repeat (first | exact SubL.nil | (apply SubL.cons; (repeat (first | exact At.here | apply At.there))) | exact SubL.refl _ | apply SubL.skip)) (fun z hz => ?_)
  refine sq (h := ?_)
  refine rg (h := ?_)
  refine WL.y (hy := lss) (h := ?_)
  refine nl (h := ?_)
  refine q_seq (h := ?_)
  refine sq (h := ?_)
  refine cd (by exact rfl) (fun h1 => ?_) (fun h1 => ?_)
  · skip
    have hkn : z.k < ord.length := by simp only [decide_eq_true_eq] at h1; omega
    obtain ⟨i, hi⟩ : ∃ i, ord[z.k]? = some i := ⟨_, List.getElem?_eq_getElem hkn⟩
    have hie := enI_at hi
    have hir := hin i (List.mem_of_getElem? hi)
    obtain ⟨p, hp⟩ : ∃ p, q.gs[i.toNat]? = some p := ⟨_, List.getElem?_eq_getElem (by omega)⟩
    have hpe := encPt_at hp
    have hjl : (joinTo q.gs ord minute s z.k).ws.length ≤ 2000 := by
      have := List.length_filter_le (arrV q.gs minute) (ord.take z.k)
      rw [List.length_take] at this
      show (keptV q.gs minute s ++ (ord.take z.k).filter (arrV q.gs minute)).length ≤ 2000
      rw [List.length_append]; omega
    have hstep : (joinTo q.gs ord minute s (z.k + 1)).ws = (joinTo q.gs ord minute s z.k).ws ++ (bif arrV q.gs minute i then [i] else []) := by
      show keptV q.gs minute s ++ (ord.take (z.k + 1)).filter (arrV q.gs minute) = keptV q.gs minute s ++ (ord.take z.k).filter (arrV q.gs minute) ++ _
      rw [filter_take_succ _ hi, List.append_assoc]
    have harr : arrV q.gs minute i = (decide (p.at_ = minute) && !goneV q.gs minute i) := by rw [arrV, hp]
    refine skp (h := ?_)
    refine q_seq (h := ?_)
    refine sq (h := ?_)
    refine bk (h := ?_)
    refine sq (h := ?_)
    refine rg (h := ?_)
    refine WL.y (hy := ix (A := x.oA) (m := ord.length)) (h := ?_)
    refine WL.y (hy := ldE (A := x.oA) (hk := hie)) (h := ?_)
    refine WL.y (hy := asg) (h := ?_)
    refine nl (h := ?_)
    refine q_seq (h := ?_)
    refine sq (h := ?_)
    refine rgD (by kernel_rfl) [(1000000, .blk b0 82 [.pointer (some ⟨b, 0, none⟩)]), (1000000, .blk b1 3 [.int .i64 minute]), (1000000, .blk b 85 (crC q a { x with wA := z.A, wc := z.c } ord (joinTo q.gs ord minute s z.k))), (1000000, .ro a.gA 4 q.gs.length (encPt q.gs))] (by repeat (first | exact HS.nil | (apply HS.keep; (repeat (first | exact At.here | apply At.there))) | (apply HS.ro; (repeat (first | exact Rds.ro | exact Rds.own | apply Rds.there))))) (h := ?_)
    refine tk 0 (hy := (by first | exact ld | exact ldE)) (h := ?_)
    refine tk 1 (hy := nck) (h := ?_)
    refine tk 2 (hy := (by first | exact fa | exact faE)) (h := ?_)
    refine tk 3 (hy := (by first | exact fa | exact faE)) (h := ?_)
    refine tk 4 (hy := (by first | exact ld | exact ldE)) (h := ?_)
    refine tk 5 (hy := mv) (h := ?_)
    refine tk 6 (hy := ix (A := a.gA) (m := q.gs.length)) (h := ?_)
    refine tk 7 (hy := (by first | exact fa | exact faE)) (h := ?_)
    refine tk 8 (hy := ldE (A := a.gA) (hk := hpe)) (h := ?_)
    refine tk 9 (hy := (by first | exact ld | exact ldE)) (h := ?_)
    refine tk 10 (hy := eql) (h := ?_)
    refine tk 11 (hy := mv) (h := ?_)
    refine brH (g := 52) (by exact rfl) (fun hb2 => ?_) (fun hb2 => ?_)
    · skip
      have hat : decide (p.at_ = minute) = true := hb2
      refine tk 12 (hy := mv) (h := ?_)
      refine tk 13 (hy := mv) (h := ?_)
      refine one 14 (h := ?_)
      refine un (h := ?_)
      refine clfT inferInstance (fi := []) (cap := [.pointer (some ⟨b0, 0, none⟩), .pointer (some ⟨b1, 0, none⟩)]) (by exact rfl) (by repeat (first | exact Evs.nil | (apply Evs.cons; exact rfl))) (T_gone q a { x with wA := z.A, wc := z.c } ord (joinTo q.gs ord minute s z.k) b b0 b1 minute i hir) rfl (by repeat (first | exact Spl.nil | (apply Spl.cons; (repeat (first | exact At.here | apply At.there))))) (h := fun _ _ => ?_)
      refine nx (h := ?_)
      refine tk 15 (hy := notB) (h := ?_)
      refine tk 16 (hy := (by first | exact pkT | exact pkF)) (h := ?_)
      refine dn (h := ?_)
      refine q_seq (h := ?_)
      refine cd (by exact rfl) (fun h3 => ?_) (fun h3 => ?_)
      · skip
        have hstep1 : (joinTo q.gs ord minute s (z.k + 1)).ws = (joinTo q.gs ord minute s z.k).ws ++ [i] := by rw [hstep, harr, hat, h3]; rfl
        have hsl1 : (joinTo q.gs ord minute s (z.k + 1)).ws.length = (joinTo q.gs ord minute s z.k).ws.length + 1 := by rw [hstep1]; simp
        refine rgD (by kernel_rfl) [(1000000, .blk b0 82 [.pointer (some ⟨b, 0, none⟩)]), (10, .blk b 85 (crC q a { x with wA := z.A, wc := z.c } ord (joinTo q.gs ord minute s z.k)))] (by repeat (first | exact HS.nil | (apply HS.keep; (repeat (first | exact At.here | apply At.there))) | (apply HS.ro; (repeat (first | exact Rds.ro | exact Rds.own | apply Rds.there))))) (h := ?_)
        refine tk 0 (hy := (by first | exact ld | exact ldE)) (h := ?_)
        refine tk 1 (hy := (by first | exact ld | exact ldE)) (h := ?_)
        refine tk 2 (hy := nck) (h := ?_)
        refine tk 3 (hy := (by first | exact fa | exact faE)) (h := ?_)
        refine tk 4 (hy := (by first | exact ld | exact ldE)) (h := ?_)
        refine tk 5 (hy := mv) (h := ?_)
        refine one 6 (h := ?_)
        refine bs (h := fun ub => ?_)
        refine nx (h := ?_)
        refine one 7 (h := ?_)
        refine apW (A := z.A) (c := z.c) (ws := (joinTo q.gs ord minute s z.k).ws) (xs := [i]) (m := (joinTo q.gs ord minute s z.k).ws.length) (k := 1) (ha := (by repeat (first | exact At.here | apply At.there))) (hr := by repeat (first | exact Rds.own | apply Rds.there)) (hb := by omega) (hlm := by omega) (h := fun A2 c2 => ?_)
        refine nx (h := ?_)
        refine tk 8 (hy := nck) (h := ?_)
        refine tk 9 (hy := (by first | exact fa | exact faE)) (h := ?_)
        refine one 10 (h := ?_)
        first | refine st (h := ?_) | refine stE (h := ?_)
        refine nx (h := ?_)
        refine dn (h := ?_)
        refine q_blk_norm (h := ?_)
        refine q_seq (h := ?_)
        refine rg (h := ?_)
        refine WL.y (hy := addI) (h := ?_)
        refine WL.y (hy := mv) (h := ?_)
        refine nl (h := ?_)
        first
          | (refine rn (x := z) ⟨z.k + 1, A2, c2⟩ (by dsimp only; omega) (by dsimp only; omega) (by repeat (first | exact trivial | refine ⟨rfl, ?_⟩)) (by dsimp only [crC]; rw [hsl1, hstep1]; repeat (first | exact SubL.nil | (apply SubL.cons; (repeat (first | exact At.here | apply At.there))) | exact SubL.refl _ | apply SubL.skip)))
          | (refine rn (x := z) ⟨z.k + 1, z.A, z.c⟩ (by dsimp only; omega) (by dsimp only; omega) (by repeat (first | exact trivial | refine ⟨rfl, ?_⟩)) (by dsimp only [crC]; rw [hstep0]; repeat (first | exact SubL.nil | (apply SubL.cons; (repeat (first | exact At.here | apply At.there))) | exact SubL.refl _ | apply SubL.skip)))
      · skip
        first
          | (have hstep0 : (joinTo q.gs ord minute s (z.k + 1)).ws = (joinTo q.gs ord minute s z.k).ws := by rw [hstep, harr, hat, ‹(!goneV q.gs minute i) = false›]; simp)
          | skip
        refine skp (h := ?_)
        refine q_blk_norm (h := ?_)
        refine q_seq (h := ?_)
        refine rg (h := ?_)
        refine WL.y (hy := addI) (h := ?_)
        refine WL.y (hy := mv) (h := ?_)
        refine nl (h := ?_)
        first
          | (refine rn (x := z) ⟨z.k + 1, A2, c2⟩ (by dsimp only; omega) (by dsimp only; omega) (by repeat (first | exact trivial | refine ⟨rfl, ?_⟩)) (by dsimp only [crC]; rw [hsl1, hstep1]; repeat (first | exact SubL.nil | (apply SubL.cons; (repeat (first | exact At.here | apply At.there))) | exact SubL.refl _ | apply SubL.skip)))
          | (refine rn (x := z) ⟨z.k + 1, z.A, z.c⟩ (by dsimp only; omega) (by dsimp only; omega) (by repeat (first | exact trivial | refine ⟨rfl, ?_⟩)) (by dsimp only [crC]; rw [hstep0]; repeat (first | exact SubL.nil | (apply SubL.cons; (repeat (first | exact At.here | apply At.there))) | exact SubL.refl _ | apply SubL.skip)))
    · skip
      have hstep0 : (joinTo q.gs ord minute s (z.k + 1)).ws = (joinTo q.gs ord minute s z.k).ws := by rw [hstep, harr, show decide (p.at_ = minute) = false from hb2]; simp
      refine tkS 12 (h := ?_)
      refine tkS 13 (h := ?_)
      refine tkS 14 (h := ?_)
      refine tkS 15 (h := ?_)
      refine tk 16 (hy := (by first | exact pkT | exact pkF)) (h := ?_)
      refine dn (h := ?_)
      refine q_seq (h := ?_)
      refine cdF (h := ?_)
      first
        | (have hstep0 : (joinTo q.gs ord minute s (z.k + 1)).ws = (joinTo q.gs ord minute s z.k).ws := by rw [hstep, harr, hat, ‹(!goneV q.gs minute i) = false›]; simp)
        | skip
      refine skp (h := ?_)
      refine q_blk_norm (h := ?_)
      refine q_seq (h := ?_)
      refine rg (h := ?_)
      refine WL.y (hy := addI) (h := ?_)
      refine WL.y (hy := mv) (h := ?_)
      refine nl (h := ?_)
      first
        | (refine rn (x := z) ⟨z.k + 1, A2, c2⟩ (by dsimp only; omega) (by dsimp only; omega) (by repeat (first | exact trivial | refine ⟨rfl, ?_⟩)) (by dsimp only [crC]; rw [hsl1, hstep1]; repeat (first | exact SubL.nil | (apply SubL.cons; (repeat (first | exact At.here | apply At.there))) | exact SubL.refl _ | apply SubL.skip)))
        | (refine rn (x := z) ⟨z.k + 1, z.A, z.c⟩ (by dsimp only; omega) (by dsimp only; omega) (by repeat (first | exact trivial | refine ⟨rfl, ?_⟩)) (by dsimp only [crC]; rw [hstep0]; repeat (first | exact SubL.nil | (apply SubL.cons; (repeat (first | exact At.here | apply At.there))) | exact SubL.refl _ | apply SubL.skip)))
  · skip
    have hkn : z.k = ord.length := by simp only [decide_eq_false_iff_not] at h1; omega
    have hfin : joinTo q.gs ord minute s z.k = joinV q.gs ord minute s := by rw [joinTo, hkn, List.take_length]; rfl
    rw [hfin]
    refine et (h := ?_)
    refine q_then_exit (h := ?_)
    refine q_then_exit (h := ?_)
    refine q_blk_hit (h := ?_)
    refine q_end (hR := ?_)
    exact fun w hS => ⟨{ x with wA := z.A, wc := z.c }, trivial, rfl, hS.sub (by repeat (first | exact SubL.nil | (apply SubL.cons; (repeat (first | exact At.here | apply At.there))) | exact SubL.refl _ | apply SubL.skip))⟩
end Go.Proofs.Ytbcclgfobiholaa
