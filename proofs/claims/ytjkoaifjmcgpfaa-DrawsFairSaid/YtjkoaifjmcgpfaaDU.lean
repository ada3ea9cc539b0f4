/- Walks of the document's answers on draws: all draws that obey. -/
import Derived.Test.YtjkoaifjmcgpfaaDT
namespace Go.Proofs.Ytjkoaifjmcgpfaa
open Go Go.RowKit

def choV (p : Pl) : List Int := -1 :: ordTo p.ps p.ps.length
def skR (p : Pl) (first : List Int) (ch : Int) : Bool := (decide (ch = -1) && decide ((first.count (-1) : Int) = p.size - p.ps.length)) || (!decide (ch = -1) && inV first ch)
/-- One more choice. -/
def shStep (p : Pl) (first : List Int) (most : Int) (rec : List Int → Int → List (List Int)) (out : List (List Int)) (ch : Int) : List (List Int) :=
  bif decide ((out.length : Int) ≤ most) then (bif skR p first ch || !fitV p (first ++ [ch]) then out else out ++ rec (first ++ [ch]) (most - out.length)) else out
def shF (p : Pl) : Nat → List Int → Int → List (List Int)
  | 0, first, _ => bif legalV p first then [first] else []
  | f + 1, first, most => (choV p).foldl (shStep p first most (shF p f)) []
theorem cho_len (p : Pl) : (choV p).length = 1 + p.ps.length := by
  rw [choV, List.length_cons, ord_len p.ps _ (Nat.le_refl _)]; omega
theorem ins_mem {l : List Int} {n y : Int} : y ∈ insL l n ↔ y = n ∨ y ∈ l := by
  have h : y ∈ l ↔ y ∈ l.takeWhile (fun x => decide (x < n)) ∨ y ∈ l.dropWhile (fun x => decide (x < n)) := by
    rw [← List.mem_append, List.takeWhile_append_dropWhile]
  unfold insL
  rw [List.mem_append, List.mem_cons, h]
  constructor
  · rintro (h1 | h1 | h1)
    · exact .inr (.inl h1)
    · exact .inl h1
    · exact .inr (.inr h1)
  · rintro (h1 | h1 | h1)
    · exact .inr (.inl h1)
    · exact .inl h1
    · exact .inr (.inr h1)
theorem ord_mem {ps : List Ps} {y : Int} : ∀ k, k ≤ ps.length → (y ∈ ordTo ps k ↔ ∃ j x, j < k ∧ ps[j]? = some x ∧ x.player = y)
  | 0, _ => ⟨fun h => (nomatch h), fun ⟨j, _, hj, _⟩ => by omega⟩
  | k + 1, hk => by
    have hx : ps[k]? = some ps[k] := List.getElem?_eq_getElem (by omega)
    rw [ord_succ hx, ins_mem, ord_mem k (by omega)]
    constructor
    · rintro (h | ⟨j, x, hj, h1, h2⟩)
      · exact ⟨k, _, by omega, hx, h.symm⟩
      · exact ⟨j, x, by omega, h1, h2⟩
    · rintro ⟨j, x, hj, h1, h2⟩
      by_cases e : j = k
      · subst e; rw [hx] at h1; cases h1; exact .inl h2.symm
      · exact .inr ⟨j, x, by omega, h1, h2⟩
theorem cho_sh {p : Pl} (hq : p.Ok) {y : Int} (h : y ∈ choV p) : ShP p y := by
  rw [choV, List.mem_cons] at h
  rcases h with rfl | h
  · exact .inl rfl
  · obtain ⟨j, x, _, h1, rfl⟩ := (ord_mem _ (Nat.le_refl _)).1 h
    have := num_of hq h1
    have := per_of hq h1
    exact .inr ⟨by omega, by omega⟩
theorem step_len {p : Pl} {first : List Int} {most : Int} {rec : List Int → Int → List (List Int)} (hr : ∀ l m, 0 ≤ m → ((rec l m).length : Int) ≤ m + 1) (h0 : 0 ≤ most) {out : List (List Int)} {ch : Int} (ho : (out.length : Int) ≤ most + 1) : ((shStep p first most rec out ch).length : Int) ≤ most + 1 := by
  unfold shStep
  by_cases h : (out.length : Int) ≤ most
  · rw [decide_eq_true h]
    cases skR p first ch || !fitV p (first ++ [ch])
    · have := hr (first ++ [ch]) (most - out.length) (by omega)
      simp only [cond_true, cond_false, List.length_append]
      omega
    · exact ho
  · rw [decide_eq_false h]; exact ho
theorem fold_len {p : Pl} {first : List Int} {most : Int} {rec : List Int → Int → List (List Int)} (hr : ∀ l m, 0 ≤ m → ((rec l m).length : Int) ≤ m + 1) (h0 : 0 ≤ most) : ∀ (cs : List Int) (out : List (List Int)), (out.length : Int) ≤ most + 1 → ((cs.foldl (shStep p first most rec) out).length : Int) ≤ most + 1
  | [], out, ho => ho
  | c :: cs, out, ho => fold_len hr h0 cs _ (step_len hr h0 ho)
theorem sh_len (p : Pl) : ∀ (f : Nat) (first : List Int) (most : Int), 0 ≤ most → ((shF p f first most).length : Int) ≤ most + 1
  | 0, first, most, h => by
    rw [shF]
    cases legalV p first
    · simp; omega
    · simp; omega
  | f + 1, first, most, h => fold_len (fun l m hm => sh_len p f l m hm) h _ _ (by simp; omega)
theorem fold_full {p : Pl} {first : List Int} {most : Int} {rec : List Int → Int → List (List Int)} : ∀ (cs : List Int) (out : List (List Int)), most < (out.length : Int) → cs.foldl (shStep p first most rec) out = out
  | [], out, _ => rfl
  | c :: cs, out, ho => by
    have e : shStep p first most rec out c = out := by unfold shStep; rw [decide_eq_false (by omega)]; rfl
    rw [List.foldl_cons, e]; exact fold_full cs out ho
theorem fold_take {p : Pl} {first : List Int} {most : Int} {rec : List Int → Int → List (List Int)} {i : Nat} {ch : Int} (h : (choV p)[i]? = some ch) : ((choV p).take (i + 1)).foldl (shStep p first most rec) [] = shStep p first most rec (((choV p).take i).foldl (shStep p first most rec) []) ch := by
  rw [List.take_add_one, h, List.foldl_append]; rfl
structure SX where
  (R : Option Addr) (rc : Nat) (hs : List (Option Addr × Nat × List Int))
def rowsV (hs : List (Option Addr × Nat × List Int)) : List (List Value) := hs.map fun h => [.slice h.1 h.2.2.length h.2.1]
def rowsE (hs : List (Option Addr × Nat × List Int)) : List Row := hs.map fun h => ⟨h.1, 1, h.2.2.length, enI h.2.2⟩
theorem rowsV_app (a b : List (Option Addr × Nat × List Int)) : rowsV (a ++ b) = rowsV a ++ rowsV b := List.map_append
theorem rowsE_app (a b : List (Option Addr × Nat × List Int)) : rowsE (a ++ b) = rowsE a ++ rowsE b := List.map_append
theorem C_sheets0 (p : Pl) (a : PA) (hq : p.Ok) (first : List Int) (A : Option Addr) (n c : Nat) (most : Int) (hn : first.length = n) (hns : (n : Int) = p.size) (hsh : ∀ y ∈ first, ShP p y) (w : World) (h : PRd w p a) (hA : Rd w A 1 n (enI first)) :
    CR Try.prog 47 [p.val a, .slice A n c, .int .i64 most] w (fun x : SX => x.hs.map (·.2.2) = shF p 0 first most ∧ ∀ h ∈ x.hs, h = (A, c, first)) (fun x => .slice x.R x.hs.length x.rc) (fun x => [.own x.R x.rc 23 1 x.hs.length (rowsV x.hs)]) := by
  obtain ⟨hp, hl, hpn, hln, hpc⟩ := h
  have hz := hq.z
  refine ⟨en Try.func47 Try.ntmps47 ((((St.init w).share (e := .ro a.pA 3 p.ps.length (encPs p.ps)) hp rfl rfl rfl).share (e := .ro a.lA 1 p.lots.length (enI p.lots)) hl rfl rfl rfl).share (e := .ro A 1 n (enI first)) hA rfl rfl rfl) (h := fun F => ?_)⟩
  refine sq (h := ?_)
  refine rg (h := ?_)
  refine bxA (h := fun b0 => ?_)
  refine WL.y (hy := asg) (h := ?_)
  refine nl (h := ?_)
  refine q_seq (h := ?_)
  refine sq (h := ?_)
  refine sq (h := ?_)
  refine rg (h := ?_)
  refine WL.y (hy := mv) (h := ?_)
  refine WL.y (hy := lenS) (h := ?_)
  refine WL.y (hy := (by first | exact fa | exact faE)) (h := ?_)
  refine WL.y (hy := (by first | exact ld | exact ldE)) (h := ?_)
  refine WL.y (hy := eql) (h := ?_)
  refine nl (h := ?_)
  refine q_seq (h := ?_)
  refine cd (by exact rfl) (fun h0 => ?_) (fun h0 => ?_)
  · skip
    refine sq (h := ?_)
    refine sq (h := ?_)
    refine rg (h := ?_)
    refine WL.y (hy := (by first | exact ldA | exact ldEA)) (h := ?_)
    refine WL.y (hy := mv) (h := ?_)
    refine cl0 (hc := fun w hS => C_Legal p a first A n c hq hn hns hsh w ⟨hS.get, hS.get, hpn, hln, hpc⟩ hS.get) (h := ?_)
    refine nl (h := ?_)
    refine q_seq (h := ?_)
    refine cd (by exact rfl) (fun h1 => ?_) (fun h1 => ?_)
    · skip
      have hE : shF p 0 first most = [first] := by rw [shF, h1]; rfl
      refine sq (h := ?_)
      refine rg (h := ?_)
      refine WL.y (hy := mv) (h := ?_)
      refine bs (h := fun b1 => ?_)
      refine WL.y (hy := asg) (h := ?_)
      refine nl (h := ?_)
      refine q_seq (h := ?_)
      refine rtn (h := ?_)
      refine q_then_ret (h := ?_)
      refine q_then_ret (h := ?_)
      refine q_ret (hR := ?_)
      exact fun w hS => ⟨⟨some ⟨b1, 0, none⟩, 1, [(A, c, first)]⟩, ⟨hE.symm, fun h hh => by simpa using hh⟩, rfl, by rw [show rowsV [(A, c, first)] = [[.slice A n c]] by rw [← hn]; rfl]; exact hS.sub (by repeat (first | exact SubL.nil | (apply SubL.cons; (repeat (first | exact At.here | apply At.there))) | exact SubL.refl _ | apply SubL.skip))⟩
    · skip
      have hE : shF p 0 first most = [] := by rw [shF, h1]; rfl
      refine WC.nilOwn 23 1 (h := ?_)
      refine skp (h := ?_)
      refine q_seq (h := ?_)
      refine sq (h := ?_)
      refine rg (h := ?_)
      refine WL.y (hy := asg) (h := ?_)
      refine nl (h := ?_)
      refine q_seq (h := ?_)
      refine rtn (h := ?_)
      refine q_then_ret (h := ?_)
      refine q_ret (hR := ?_)
      exact fun w hS => ⟨⟨none, 0, []⟩, ⟨hE.symm, fun h hh => (nomatch hh)⟩, rfl, hS.sub (by repeat (first | exact SubL.nil | (apply SubL.cons; (repeat (first | exact At.here | apply At.there))) | exact SubL.refl _ | apply SubL.skip))⟩
  · skip
    exfalso
    simp only [decide_eq_false_iff_not] at h0
    omega
def ShC (p : Pl) (f : Nat) : Prop := ∀ (a : PA) (first : List Int) (A : Option Addr) (n c : Nat) (most : Int), first.length = n → ((n + f : Nat) : Int) = p.size → 0 ≤ most → most ≤ 1000000 → (∀ y ∈ first, ShP p y) → ∀ w, PRd w p a → Rd w A 1 n (enI first) →
    CR Try.prog 47 [p.val a, .slice A n c, .int .i64 most] w (fun x : SX => x.hs.map (·.2.2) = shF p f first most ∧ (f = 0 → ∀ h ∈ x.hs, h = (A, c, first))) (fun x => .slice x.R x.hs.length x.rc) (fun x => [.own x.R x.rc 23 1 x.hs.length (rowsV x.hs), manyE true (bif decide (f = 0) then [] else rowsE x.hs)])
theorem sheets_zero (p : Pl) (hq : p.Ok) : ShC p 0 := fun a first A n c most hn hns _ _ hsh w h hA =>
  ⟨Calls.mono (C_sheets0 p a hq first A n c most hn (by simpa using hns) hsh w h hA).out fun _ _ ⟨x, hx, he, hs⟩ => ⟨x, ⟨hx.1, fun _ => hx.2⟩, he, hs.many0.sub (.cons (.there .here) (SubL.refl _))⟩⟩
theorem sh_join {f : Nat} {hs hs' : List (Option Addr × Nat × List Int)} {A : Option Addr} {c n : Nat} {now : List Int} (hn : now.length = n) (h0 : f = 0 → ∀ h ∈ hs', h = (A, c, now)) : ∀ r ∈ rowsE (hs ++ hs'), r ∈ (bif decide (f = 0) then [] else rowsE hs') ∨ r = ⟨A, 1, n, enI now⟩ ∨ r ∈ rowsE hs := fun r hr => by
  rw [rowsE_app] at hr
  rcases List.mem_append.1 hr with h | h
  · exact .inr (.inr h)
  · by_cases e : f = 0
    · obtain ⟨x, hx, rfl⟩ := List.mem_map.1 h
      rw [h0 e x hx]
      exact .inr (.inl (by rw [← hn]))
    · rw [decide_eq_false e]; exact .inl h
structure ShQ where
  (i : Nat) (O : Option Addr) (oc : Nat) (hs : List (Option Addr × Nat × List Int))
set_option maxRecDepth 100000 in
set_option maxHeartbeats 8000000 in
theorem sheets_succ (p : Pl) (hq : p.Ok) (f : Nat) (ih : ShC p f) : ShC p (f + 1) := by
  intro a first A n c most hn hns hm0 hm1 hsh w h hA
  obtain ⟨hp, hl, hpn, hln, hpc⟩ := h
  have hz := hq.z
  have hqn := hq.n
  have hcl := cho_len p
  refine ⟨en Try.func47 Try.ntmps47 ((((St.init w).share (e := .ro a.pA 3 p.ps.length (encPs p.ps)) hp rfl rfl rfl).share (e := .ro a.lA 1 p.lots.length (enI p.lots)) hl rfl rfl rfl).share (e := .ro A 1 n (enI first)) hA rfl rfl rfl) (h := fun F => ?_)⟩
  refine sq (h := ?_)
  refine rg (h := ?_)
  refine bxA (h := fun b0 => ?_)
  refine WL.y (hy := asg) (h := ?_)
  refine nl (h := ?_)
  refine q_seq (h := ?_)
  refine sq (h := ?_)
  refine sq (h := ?_)
  refine rg (h := ?_)
  refine WL.y (hy := mv) (h := ?_)
  refine WL.y (hy := lenS) (h := ?_)
  refine WL.y (hy := (by first | exact fa | exact faE)) (h := ?_)
  refine WL.y (hy := (by first | exact ld | exact ldE)) (h := ?_)
  refine WL.y (hy := eql) (h := ?_)
  refine nl (h := ?_)
  refine q_seq (h := ?_)
  refine cd (by exact rfl) (fun h0 => ?_) (fun h0 => ?_)
  · skip
    exfalso
    simp only [decide_eq_true_eq] at h0
    omega
  · skip
    refine skp (h := ?_)
    refine q_seq (h := ?_)
    refine sq (h := ?_)
    refine rg (h := ?_)
    refine bs (h := fun b1 => ?_)
    refine WL.y (hy := (by first | exact ldA | exact ldEA)) (h := ?_)
    refine cl (hc := fun w hS => C_ordered p a (by omega) w ⟨hS.get, hS.get, hpn, hln, hpc⟩) (h := fun x1 _ => ?_)
    first | refine ap (h := fun A1 c1 => ?_) | refine ap0 (h := fun A1 c1 => ?_)
    refine WL.y (hy := asg) (h := ?_)
    rw [show ([[Value.int .i64 (-1)]] ++ enI (ordTo p.ps p.ps.length)) = enI (choV p) from rfl]
    refine nl (h := ?_)
    refine q_seq (h := ?_)
    refine sq (h := ?_)
    refine rg (h := ?_)
    refine WL.y (hy := asg) (h := ?_)
    refine nl (h := ?_)
    refine q_seq (h := ?_)
    refine sq (h := ?_)
    refine sq (h := ?_)
    refine WC.nilOwn 23 1 (h := ?_)
    refine WC.many0 (h := ?_)
    refine rg (h := ?_)
    refine WL.y (hy := asg) (h := ?_)
    refine nl (h := ?_)
    refine q_seq (h := ?_)
    refine bk (h := ?_)
    refine lp (X := ShQ) (I := fun z => z.i ≤ (choV p).length ∧ z.hs.map (·.2.2) = ((choV p).take z.i).foldl (shStep p first most (shF p f)) []) (le := fun z => [(1, .slice A n c), (2, .int .i64 most), (3, .pointer (some ⟨b0, 0, none⟩)), (7, .slice A1 (1 + p.ps.length) c1), (8, .slice z.O z.hs.length z.oc), (9, .int .i64 z.i)]) (Le := fun z => .own z.O z.oc 23 1 z.hs.length (rowsV z.hs) :: manyE true (rowsE z.hs) :: .own A1 c1 3 1 (1 + p.ps.length) (enI (choV p)) :: .ro A 1 n (enI first) :: plL p a b0) (μ := fun z => (choV p).length - z.i) ⟨0, none, 0, []⟩ ⟨Nat.zero_le _, rfl⟩ (by repeat (first | exact trivial | refine ⟨rfl, ?_⟩)) (by repeat (first | exact SubL.nil | (apply SubL.cons; (repeat (first | exact At.here | apply At.there))) | exact SubL.refl _ | apply SubL.skip)) (fun z hz => ?_)
    obtain ⟨hz1, hz2⟩ := hz
    refine sq (h := ?_)
    refine sq (h := ?_)
    refine rg (h := ?_)
    refine WL.y (hy := mv) (h := ?_)
    refine WL.y (hy := mv) (h := ?_)
    refine WL.y (hy := lenS) (h := ?_)
    refine WL.y (hy := lss) (h := ?_)
    refine WL.y (hy := mv) (h := ?_)
    apply brAnd 5 29 34 (by exact rfl)
    · intro hb1
      refine un (h := ?_)
      refine WL.y (hy := mv) (h := ?_)
      refine un (h := ?_)
      refine WL.y (hy := lenS) (h := ?_)
      refine un (h := ?_)
      refine WL.y (hy := mv) (h := ?_)
      refine un (h := ?_)
      refine WL.y (hy := leq) (h := ?_)
      refine WL.y (hy := (by first | exact pkT | exact pkF)) (h := ?_)
      exact mg (by repeat (first | exact trivial | refine ⟨rfl, ?_⟩ | refine ⟨by rw [hb1]; rfl, ?_⟩)) (by repeat (first | exact SubL.nil | (apply SubL.cons; (repeat (first | exact At.here | apply At.there))) | exact SubL.refl _ | apply SubL.skip))
    · intro hb1
      repeat (first | refine un (h := ?_) | refine sk (h := ?_) | refine WL.y (hy := pkF) (h := ?_) | refine WL.y (hy := pkT) (h := ?_))
      exact mg (by repeat (first | exact trivial | refine ⟨rfl, ?_⟩ | refine ⟨by rw [hb1]; rfl, ?_⟩)) (by repeat (first | exact SubL.nil | (apply SubL.cons; (repeat (first | exact At.here | apply At.there))) | exact SubL.refl _ | apply SubL.skip))
    refine nl (h := ?_)
    refine q_seq (h := ?_)
    refine cd (by exact rfl) (fun h2 => ?_) (fun h2 => ?_)
    · skip
      have hg := h2
      simp only [Bool.and_eq_true, decide_eq_true_eq] at hg
      obtain ⟨hg1, hg2⟩ := hg
      have hin : z.i < (choV p).length := by omega
      obtain ⟨ch, hch⟩ : ∃ ch, (choV p)[z.i]? = some ch := ⟨_, List.getElem?_eq_getElem hin⟩
      have hce := enI_at hch
      have hcs := cho_sh hq (List.mem_of_getElem? hch)
      have hzl : z.hs.length = (((choV p).take z.i).foldl (shStep p first most (shF p f)) []).length := by rw [← hz2, List.length_map]
      have hft := fold_take (p := p) (first := first) (most := most) (rec := shF p f) hch
      have hns2 : ((n + 1 + f : Nat) : Int) = p.size := by omega
      have hnl : (first ++ [ch]).length = n + 1 := by rw [List.length_append, hn]; rfl
      have hsh2 : ∀ y ∈ first ++ [ch], ShP p y := fun y hy => by
        rcases List.mem_append.1 hy with h | h
        · exact hsh y h
        · simp only [List.mem_singleton] at h; subst h; exact hcs
      refine skp (h := ?_)
      refine q_seq (h := ?_)
      refine sq (h := ?_)
      refine bk (h := ?_)
      refine sq (h := ?_)
      refine ct (X := Bool) (fun s => s = skR p first ch) (fun s => [(1, .slice A n c), (2, .int .i64 most), (3, .pointer (some ⟨b0, 0, none⟩)), (7, .slice A1 (1 + p.ps.length) c1), (8, .slice z.O z.hs.length z.oc), (9, .int .i64 z.i), (67, .bool s)]) (fun _ => .own z.O z.oc 23 1 z.hs.length (rowsV z.hs) :: manyE true (rowsE z.hs) :: .own A1 c1 3 1 (1 + p.ps.length) (enI (choV p)) :: .ro A 1 n (enI first) :: plL p a b0) (h1 := ?_) (h2 := ?_)
      · skip
        refine rgD0 (by kernel_rfl) (h := ?_)
        refine tk 0 (hy := mv) (h := ?_)
        refine tk 1 (hy := mv) (h := ?_)
        refine tk 2 (hy := ix (A := A1) (m := 1 + p.ps.length)) (h := ?_)
        refine tk 3 (hy := ldE (A := A1) (hk := hce)) (h := ?_)
        refine tk 4 (hy := eql) (h := ?_)
        refine tk 5 (hy := mv) (h := ?_)
        refine brH (g := 42) (by exact rfl) (fun hb3 => ?_) (fun hb3 => ?_)
        · skip
          refine tk 6 (hy := mv) (h := ?_)
          refine tk 8 (hy := (by first | exact fa | exact faE)) (h := ?_)
          refine tk 9 (hy := (by first | exact ld | exact ldE)) (h := ?_)
          refine tk 10 (hy := (by first | exact fa | exact faE)) (h := ?_)
          refine tk 11 (hy := (by first | exact ld | exact ldE)) (h := ?_)
          refine tk 12 (hy := lenS) (h := ?_)
          refine tk 13 (hy := subI) (h := ?_)
          refine one 7 (h := ?_)
          refine un (h := ?_)
          refine cl0 (hc := fun w hS => C_many first (-1) A n c hn (by omega) w (hS.get (by repeat (first | exact Rds.ro | apply Rds.there)))) (h := ?_)
          refine nx (h := ?_)
          refine tk 14 (hy := eql) (h := ?_)
          refine tk 15 (hy := (by first | exact pkT | exact pkF)) (h := ?_)
          refine tk 16 (hy := mv) (h := ?_)
          refine brH (g := 53) (by exact rfl) (fun hb4 => ?_) (fun hb4 => ?_)
          · skip
            refine tkS 17 (h := ?_)
            refine tkS 18 (h := ?_)
            refine tkS 19 (h := ?_)
            refine tkS 20 (h := ?_)
            refine tkS 21 (h := ?_)
            refine tkS 22 (h := ?_)
            refine tkS 23 (h := ?_)
            refine tkS 24 (h := ?_)
            refine tkS 25 (h := ?_)
            refine tkS 26 (h := ?_)
            refine tkS 27 (h := ?_)
            refine tkS 28 (h := ?_)
            refine tkS 29 (h := ?_)
            refine tk 30 (hy := (by first | exact pkT | exact pkF)) (h := ?_)
            refine dn (h := ?_)
            refine ctnL _ (by repeat (first | exact trivial | refine ⟨rfl, ?_⟩)) (by repeat (first | exact SubL.nil | (apply SubL.cons; (repeat (first | exact At.here | apply At.there))) | exact SubL.refl _ | apply SubL.skip)) ?_
            first
              | (simp only [skR, *]; done)
              | (simp only [skR, *]; simp; done)
              | (exfalso; simp_all; done)
          · skip
            refine tk 17 (hy := mv) (h := ?_)
            refine tk 18 (hy := mv) (h := ?_)
            refine tk 19 (hy := ix (A := A1) (m := 1 + p.ps.length)) (h := ?_)
            refine tk 20 (hy := ldE (A := A1) (hk := hce)) (h := ?_)
            refine tk 21 (hy := neq) (h := ?_)
            refine tk 22 (hy := mv) (h := ?_)
            refine brH (g := 59) (by exact rfl) (fun hb5 => ?_) (fun hb5 => ?_)
            · skip
              refine tk 23 (hy := mv) (h := ?_)
              refine tk 24 (hy := mv) (h := ?_)
              refine tk 25 (hy := mv) (h := ?_)
              refine tk 26 (hy := ix (A := A1) (m := 1 + p.ps.length)) (h := ?_)
              refine tk 27 (hy := ldE (A := A1) (hk := hce)) (h := ?_)
              refine one 28 (h := ?_)
              refine un (h := ?_)
              refine cl0 (hc := fun w hS => C_In first ch A n c (by omega) w (hS.get (by repeat (first | exact Rds.ro | apply Rds.there)))) (h := ?_)
              refine nx (h := ?_)
              refine tk 29 (hy := (by first | exact pkT | exact pkF)) (h := ?_)
              refine tk 30 (hy := (by first | exact pkT | exact pkF)) (h := ?_)
              refine dn (h := ?_)
              refine ctnL _ (by repeat (first | exact trivial | refine ⟨rfl, ?_⟩)) (by repeat (first | exact SubL.nil | (apply SubL.cons; (repeat (first | exact At.here | apply At.there))) | exact SubL.refl _ | apply SubL.skip)) ?_
              first
                | (simp only [skR, *]; done)
                | (simp only [skR, *]; simp; done)
                | (exfalso; simp_all; done)
            · skip
              refine tkS 23 (h := ?_)
              refine tkS 24 (h := ?_)
              refine tkS 25 (h := ?_)
              refine tkS 26 (h := ?_)
              refine tkS 27 (h := ?_)
              refine tkS 28 (h := ?_)
              refine tk 29 (hy := (by first | exact pkT | exact pkF)) (h := ?_)
              refine tk 30 (hy := (by first | exact pkT | exact pkF)) (h := ?_)
              refine dn (h := ?_)
              refine ctnL _ (by repeat (first | exact trivial | refine ⟨rfl, ?_⟩)) (by repeat (first | exact SubL.nil | (apply SubL.cons; (repeat (first | exact At.here | apply At.there))) | exact SubL.refl _ | apply SubL.skip)) ?_
              first
                | (simp only [skR, *]; done)
                | (simp only [skR, *]; simp; done)
                | (exfalso; simp_all; done)
        · skip
          refine tkS 6 (h := ?_)
          refine tkS 8 (h := ?_)
          refine tkS 9 (h := ?_)
          refine tkS 10 (h := ?_)
          refine tkS 11 (h := ?_)
          refine tkS 12 (h := ?_)
          refine tkS 13 (h := ?_)
          refine tkS 7 (h := ?_)
          refine tkS 14 (h := ?_)
          refine tk 15 (hy := (by first | exact pkT | exact pkF)) (h := ?_)
          refine tk 16 (hy := mv) (h := ?_)
          refine tk 17 (hy := mv) (h := ?_)
          refine tk 18 (hy := mv) (h := ?_)
          refine tk 19 (hy := ix (A := A1) (m := 1 + p.ps.length)) (h := ?_)
          refine tk 20 (hy := ldE (A := A1) (hk := hce)) (h := ?_)
          refine tk 21 (hy := neq) (h := ?_)
          refine tk 22 (hy := mv) (h := ?_)
          refine brH (g := 59) (by exact rfl) (fun hb6 => ?_) (fun hb6 => ?_)
          · skip
            refine tk 23 (hy := mv) (h := ?_)
            refine tk 24 (hy := mv) (h := ?_)
            refine tk 25 (hy := mv) (h := ?_)
            refine tk 26 (hy := ix (A := A1) (m := 1 + p.ps.length)) (h := ?_)
            refine tk 27 (hy := ldE (A := A1) (hk := hce)) (h := ?_)
            refine one 28 (h := ?_)
            refine un (h := ?_)
            refine cl0 (hc := fun w hS => C_In first ch A n c (by omega) w (hS.get (by repeat (first | exact Rds.ro | apply Rds.there)))) (h := ?_)
            refine nx (h := ?_)
            refine tk 29 (hy := (by first | exact pkT | exact pkF)) (h := ?_)
            refine tk 30 (hy := (by first | exact pkT | exact pkF)) (h := ?_)
            refine dn (h := ?_)
            refine ctnL _ (by repeat (first | exact trivial | refine ⟨rfl, ?_⟩)) (by repeat (first | exact SubL.nil | (apply SubL.cons; (repeat (first | exact At.here | apply At.there))) | exact SubL.refl _ | apply SubL.skip)) ?_
            first
              | (simp only [skR, *]; done)
              | (simp only [skR, *]; simp; done)
              | (exfalso; simp_all; done)
          · skip
            refine tkS 23 (h := ?_)
            refine tkS 24 (h := ?_)
            refine tkS 25 (h := ?_)
            refine tkS 26 (h := ?_)
            refine tkS 27 (h := ?_)
            refine tkS 28 (h := ?_)
            refine tk 29 (hy := (by first | exact pkT | exact pkF)) (h := ?_)
            refine tk 30 (hy := (by first | exact pkT | exact pkF)) (h := ?_)
            refine dn (h := ?_)
            refine ctnL _ (by repeat (first | exact trivial | refine ⟨rfl, ?_⟩)) (by repeat (first | exact SubL.nil | (apply SubL.cons; (repeat (first | exact At.here | apply At.there))) | exact SubL.refl _ | apply SubL.skip)) ?_
            first
              | (simp only [skR, *]; done)
              | (simp only [skR, *]; simp; done)
              | (exfalso; simp_all; done)
      intro s hs'
      refine cd (by exact rfl) (fun h7 => ?_) (fun h7 => ?_)
      · skip
        have hsk : skR p first ch = true := hs'.symm.trans h7
        have hnx : ((choV p).take (z.i + 1)).foldl (shStep p first most (shF p f)) [] = ((choV p).take z.i).foldl (shStep p first most (shF p f)) [] := by rw [hft, shStep, hsk]; simp
        refine et (h := ?_)
        refine q_then_exit (h := ?_)
        refine q_blk_hit (h := ?_)
        refine q_seq (h := ?_)
        try refine WC.manyWeak (rowsE (z.hs ++ x.hs)) (by repeat (first | exact At.here | apply At.there)) (by repeat (first | exact At.here | apply At.there)) (by repeat (first | exact At.here | apply At.there)) (sh_join hnl hx2) ?_
        refine rg (h := ?_)
        refine WL.y (hy := mv) (h := ?_)
        refine WL.y (hy := addI) (h := ?_)
        refine WL.y (hy := asg) (h := ?_)
        refine nl (h := ?_)
        first
          | refine rn (x := z) ⟨z.i + 1, z.O, z.oc, z.hs⟩ ⟨by dsimp only; omega, by dsimp only; rw [hnx]; exact hz2⟩ (by dsimp only; omega) (by repeat (first | exact trivial | refine ⟨rfl, ?_⟩)) (by repeat (first | exact SubL.nil | (apply SubL.cons; (repeat (first | exact At.here | apply At.there))) | exact SubL.refl _ | apply SubL.skip))
          | refine rn (x := z) ⟨z.i + 1, _, _, z.hs ++ x.hs⟩ ⟨by dsimp only; omega, by dsimp only; rw [hnx, List.map_append, hz2, hx1]⟩ (by dsimp only; omega) (by dsimp only; rw [List.length_append]; repeat (first | exact trivial | refine ⟨rfl, ?_⟩)) (by dsimp only; rw [List.length_append, rowsV_app]; repeat (first | exact SubL.nil | (apply SubL.cons; (repeat (first | exact At.here | apply At.there))) | exact SubL.refl _ | apply SubL.skip))
      · skip
        have hsk : skR p first ch = false := hs'.symm.trans h7
        refine skp (h := ?_)
        refine q_seq (h := ?_)
        refine ct (X := Option Addr × Nat) (fun _ => True) (fun s => [(1, .slice A n c), (2, .int .i64 most), (3, .pointer (some ⟨b0, 0, none⟩)), (7, .slice A1 (1 + p.ps.length) c1), (8, .slice z.O z.hs.length z.oc), (9, .int .i64 z.i), (10, .slice s.1 (n + 1) s.2)]) (fun s => .own s.1 s.2 3 1 (n + 1) (enI (first ++ [ch])) :: .own z.O z.oc 23 1 z.hs.length (rowsV z.hs) :: manyE true (rowsE z.hs) :: .own A1 c1 3 1 (1 + p.ps.length) (enI (choV p)) :: .ro A 1 n (enI first) :: plL p a b0) (h1 := ?_) (h2 := ?_)
        · skip
          refine rgD0 (by kernel_rfl) (h := ?_)
          refine tk 1 (hy := mv) (h := ?_)
          refine tk 3 (hy := mv) (h := ?_)
          refine tk 4 (hy := mv) (h := ?_)
          refine tk 5 (hy := ix (A := A1) (m := 1 + p.ps.length)) (h := ?_)
          refine tk 6 (hy := ldE (A := A1) (hk := hce)) (h := ?_)
          refine two 0 7 (h1 := ?_) (h2 := ?_)
          · skip
            refine bs (h := fun b2 => ?_)
            refine nx (h := ?_)
            refine two 2 7 (h1 := ?_) (h2 := ?_)
            · skip
              first | refine ap (h := fun A2 c2 => ?_) | refine ap0 (h := fun A2 c2 => ?_)
              refine nx (h := ?_)
              refine one 7 (h := ?_)
              refine bs (h := fun b3 => ?_)
              refine nx (h := ?_)
              refine one 8 (h := ?_)
              first | refine ap (h := fun A3 c3 => ?_) | refine ap0 (h := fun A3 c3 => ?_)
              refine nx (h := ?_)
              refine tk 9 (hy := asg) (h := ?_)
              refine dn (h := ?_)
              simp only [Nat.zero_add, List.nil_append]
              exact ctn (_, _) trivial (by repeat (first | exact trivial | refine ⟨rfl, ?_⟩)) (by dsimp only; rw [enI_app]; repeat (first | exact SubL.nil | (apply SubL.cons; (repeat (first | exact At.here | apply At.there))) | exact SubL.refl _ | apply SubL.skip))
            · skip
              refine bs (h := fun b4 => ?_)
              refine nx (h := ?_)
              refine one 2 (h := ?_)
              first | refine ap (h := fun A4 c4 => ?_) | refine ap0 (h := fun A4 c4 => ?_)
              refine nx (h := ?_)
              refine one 8 (h := ?_)
              first | refine ap (h := fun A5 c5 => ?_) | refine ap0 (h := fun A5 c5 => ?_)
              refine nx (h := ?_)
              refine tk 9 (hy := asg) (h := ?_)
              refine dn (h := ?_)
              simp only [Nat.zero_add, List.nil_append]
              exact ctn (_, _) trivial (by repeat (first | exact trivial | refine ⟨rfl, ?_⟩)) (by dsimp only; rw [enI_app]; repeat (first | exact SubL.nil | (apply SubL.cons; (repeat (first | exact At.here | apply At.there))) | exact SubL.refl _ | apply SubL.skip))
          · skip
            refine bs (h := fun b5 => ?_)
            refine nx (h := ?_)
            refine one 0 (h := ?_)
            refine bs (h := fun b6 => ?_)
            refine nx (h := ?_)
            refine one 2 (h := ?_)
            first | refine ap (h := fun A6 c6 => ?_) | refine ap0 (h := fun A6 c6 => ?_)
            refine nx (h := ?_)
            refine one 8 (h := ?_)
            first | refine ap (h := fun A7 c7 => ?_) | refine ap0 (h := fun A7 c7 => ?_)
            refine nx (h := ?_)
            refine tk 9 (hy := asg) (h := ?_)
            refine dn (h := ?_)
            simp only [Nat.zero_add, List.nil_append]
            exact ctn (_, _) trivial (by repeat (first | exact trivial | refine ⟨rfl, ?_⟩)) (by dsimp only; rw [enI_app]; repeat (first | exact SubL.nil | (apply SubL.cons; (repeat (first | exact At.here | apply At.there))) | exact SubL.refl _ | apply SubL.skip))
        rintro ⟨nA, nc⟩ -
        dsimp only
        refine sq (h := ?_)
        refine rg (h := ?_)
        refine WL.y (hy := (by first | exact ldA | exact ldEA)) (h := ?_)
        refine WL.y (hy := mv) (h := ?_)
        refine cl0 (hc := fun w hS => C_fits p a (first ++ [ch]) nA n nc hq hnl (by omega) hsh2 w ⟨hS.get (by repeat (first | exact Rds.ro | apply Rds.there)), hS.get (by repeat (first | exact Rds.ro | apply Rds.there)), hpn, hln, hpc⟩ (hS.get (by repeat (first | exact Rds.own | apply Rds.there)))) (h := ?_)
        refine nl (h := ?_)
        refine q_seq (h := ?_)
        refine cd (by exact rfl) (fun h8 => ?_) (fun h8 => ?_)
        · skip
          have hnx : ((choV p).take (z.i + 1)).foldl (shStep p first most (shF p f)) [] = ((choV p).take z.i).foldl (shStep p first most (shF p f)) [] ++ shF p f (first ++ [ch]) (most - z.hs.length) := by rw [hft, shStep, hsk, h8, ← hzl, decide_eq_true hg2]; rfl
          have hrl := sh_len p f (first ++ [ch]) (most - z.hs.length) (by omega)
          refine rg (h := ?_)
          refine WL.y (hy := mv) (h := ?_)
          refine WL.y (hy := (by first | exact ldA | exact ldEA)) (h := ?_)
          refine WL.y (hy := mv) (h := ?_)
          refine WL.y (hy := mv) (h := ?_)
          refine WL.y (hy := mv) (h := ?_)
          refine WL.y (hy := lenS) (h := ?_)
          refine WL.y (hy := subI) (h := ?_)
          refine cl (hc := fun w hS => ih a (first ++ [ch]) nA (n + 1) nc (most - z.hs.length) hnl hns2 (by omega) (by omega) hsh2 w ⟨hS.get (by repeat (first | exact Rds.ro | apply Rds.there)), hS.get (by repeat (first | exact Rds.ro | apply Rds.there)), hpn, hln, hpc⟩ (hS.get (by repeat (first | exact Rds.own | apply Rds.there)))) (h := fun x hx => ?_)
          obtain ⟨hx1, hx2⟩ := hx
          have hxl : x.hs.length = (shF p f (first ++ [ch]) (most - z.hs.length)).length := by rw [← hx1, List.length_map]
          first | refine ap (h := fun A8 c8 => ?_) | refine ap0 (h := fun A8 c8 => ?_)
          refine WL.y (hy := asg) (h := ?_)
          refine nl (h := ?_)
          refine q_blk_norm (h := ?_)
          refine q_seq (h := ?_)
          try refine WC.manyWeak (rowsE (z.hs ++ x.hs)) (by repeat (first | exact At.here | apply At.there)) (by repeat (first | exact At.here | apply At.there)) (by repeat (first | exact At.here | apply At.there)) (sh_join hnl hx2) ?_
          refine rg (h := ?_)
          refine WL.y (hy := mv) (h := ?_)
          refine WL.y (hy := addI) (h := ?_)
          refine WL.y (hy := asg) (h := ?_)
          refine nl (h := ?_)
          first
            | refine rn (x := z) ⟨z.i + 1, z.O, z.oc, z.hs⟩ ⟨by dsimp only; omega, by dsimp only; rw [hnx]; exact hz2⟩ (by dsimp only; omega) (by repeat (first | exact trivial | refine ⟨rfl, ?_⟩)) (by repeat (first | exact SubL.nil | (apply SubL.cons; (repeat (first | exact At.here | apply At.there))) | exact SubL.refl _ | apply SubL.skip))
            | refine rn (x := z) ⟨z.i + 1, _, _, z.hs ++ x.hs⟩ ⟨by dsimp only; omega, by dsimp only; rw [hnx, List.map_append, hz2, hx1]⟩ (by dsimp only; omega) (by dsimp only; rw [List.length_append]; repeat (first | exact trivial | refine ⟨rfl, ?_⟩)) (by dsimp only; rw [List.length_append, rowsV_app]; repeat (first | exact SubL.nil | (apply SubL.cons; (repeat (first | exact At.here | apply At.there))) | exact SubL.refl _ | apply SubL.skip))
        · skip
          have hnx : ((choV p).take (z.i + 1)).foldl (shStep p first most (shF p f)) [] = ((choV p).take z.i).foldl (shStep p first most (shF p f)) [] := by rw [hft, shStep, hsk, h8]; simp
          refine skp (h := ?_)
          refine q_blk_norm (h := ?_)
          refine q_seq (h := ?_)
          try refine WC.manyWeak (rowsE (z.hs ++ x.hs)) (by repeat (first | exact At.here | apply At.there)) (by repeat (first | exact At.here | apply At.there)) (by repeat (first | exact At.here | apply At.there)) (sh_join hnl hx2) ?_
          refine rg (h := ?_)
          refine WL.y (hy := mv) (h := ?_)
          refine WL.y (hy := addI) (h := ?_)
          refine WL.y (hy := asg) (h := ?_)
          refine nl (h := ?_)
          first
            | refine rn (x := z) ⟨z.i + 1, z.O, z.oc, z.hs⟩ ⟨by dsimp only; omega, by dsimp only; rw [hnx]; exact hz2⟩ (by dsimp only; omega) (by repeat (first | exact trivial | refine ⟨rfl, ?_⟩)) (by repeat (first | exact SubL.nil | (apply SubL.cons; (repeat (first | exact At.here | apply At.there))) | exact SubL.refl _ | apply SubL.skip))
            | refine rn (x := z) ⟨z.i + 1, _, _, z.hs ++ x.hs⟩ ⟨by dsimp only; omega, by dsimp only; rw [hnx, List.map_append, hz2, hx1]⟩ (by dsimp only; omega) (by dsimp only; rw [List.length_append]; repeat (first | exact trivial | refine ⟨rfl, ?_⟩)) (by dsimp only; rw [List.length_append, rowsV_app]; repeat (first | exact SubL.nil | (apply SubL.cons; (repeat (first | exact At.here | apply At.there))) | exact SubL.refl _ | apply SubL.skip))
    · skip
      have hfin : ((choV p).take z.i).foldl (shStep p first most (shF p f)) [] = shF p (f + 1) first most := by
        have hg := h2
        simp only [Bool.and_eq_false_iff, decide_eq_false_iff_not] at hg
        rw [shF]
        rcases hg with hg | hg
        · rw [List.take_of_length_le (by omega)]
        · conv => rhs; rw [← List.take_append_drop z.i (choV p), List.foldl_append]
          exact (fold_full _ _ (by rw [← hz2, List.length_map]; omega)).symm
      refine et (h := ?_)
      refine q_then_exit (h := ?_)
      refine q_then_exit (h := ?_)
      refine q_blk_hit (h := ?_)
      refine q_seq (h := ?_)
      refine sq (h := ?_)
      refine rg (h := ?_)
      refine WL.y (hy := mv) (h := ?_)
      refine WL.y (hy := asg) (h := ?_)
      refine nl (h := ?_)
      refine q_seq (h := ?_)
      refine rtn (h := ?_)
      refine q_ret (hR := ?_)
      exact fun w hS => ⟨⟨z.O, z.oc, z.hs⟩, ⟨hz2.trans hfin, fun e => absurd e (by omega)⟩, rfl, hS.sub (by repeat (first | exact SubL.nil | (apply SubL.cons; (repeat (first | exact At.here | apply At.there))) | exact SubL.refl _ | apply SubL.skip))⟩
end Go.Proofs.Ytjkoaifjmcgpfaa
