/- The texts of the walk, part 6. -/
import Derived.Test.YtpmmgljndceplaaGreatJ5
import Derived.Shelf.SlSortCmp.WholeK
import Derived.Test.YtpmmgljndceplaaGreatProg
namespace Go.Proofs.YtpmmgljndceplaaGreat
open Go Go.RowKit Go.Sort

theorem blw_grow {w w' : World} (h : Blw w.heap.size w w') : ∃ q os, w' = grow (w.drewN q) os := by
 refine ⟨w'.drawn - w.drawn, w'.heap.extract w.heap.size w'.heap.size, ?_⟩
 have hd := h.dr
 have hh : w'.heap = w.heap ++ w'.heap.extract w.heap.size w'.heap.size := by
  refine Array.ext_getElem? fun i => ?_
  by_cases hi : i < w.heap.size
  ·
   rw [h.b.block i hi, Array.getElem?_append_left hi]
  ·
   rw [Array.getElem?_append_right (by omega), Array.getElem?_extract]
   have hs := h.b.size
   by_cases h2 : i < w'.heap.size
   ·
    rw [if_pos (by omega)]; congr 1; omega
   ·
    rw [if_neg (by omega), Array.getElem?_eq_none (by omega)]
 obtain ⟨h1, h2, h3, h4, h5⟩ := w'
 simp only [grow, World.drewN, World.mk.injEq]
 exact ⟨hh, h.b.tape, by dsimp only at hd ⊢; omega, h.b.os, h.b.output⟩
section
variable {k : Nat} {enc : Nat → List Value}
theorem flatK_toList (hk : ∀ i, (enc i).length = k) (d : Array Nat) : (flatK enc k d).toList = (d.toList.map enc).flatten := by
 have hs : ∀ c ∈ d.toList.map enc, c.length = k := fun c hc => by
  obtain ⟨i, _, rfl⟩ := List.mem_map.1 hc; exact hk i
 have hl : ((d.toList.map enc).flatten).length = d.size * k := by rw [flatten_len hs]; simp
 refine List.ext_getElem? fun t => ?_
 by_cases ht : t < d.size * k
 ·
  have hk0 : 0 < k := Nat.pos_of_mul_pos_left (Nat.lt_of_le_of_lt (Nat.zero_le _) ht)
  have hq : t / k < d.size := (Nat.div_lt_iff_lt_mul hk0).2 ht
  have hm : t % k < k := Nat.mod_lt _ hk0
  have h1 : (d.toList.map enc)[t / k]? = some (enc d[t / k]!) := by
   rw [List.getElem?_map, List.getElem?_eq_getElem (by simpa using hq)]
   simp [getElem!_pos d (t / k) hq]
  have h2 : (enc d[t / k]!)[t % k]? = some ((enc d[t / k]!)[t % k]!) := by
   have : t % k < (enc d[t / k]!).length := by rw [hk]; exact hm
   rw [List.getElem?_eq_getElem this, getElem!_pos (enc d[t / k]!) (t % k) this]
  have h3 := flatten_get hs h1 h2
  rw [show t / k * k + t % k = t by rw [Nat.mul_comm]; exact Nat.div_add_mod t k] at h3
  rw [h3, ← get_flatK enc k d t ht, Array.getElem?_toList, getElem!_pos _ t (by rw [size_flatK]; exact ht), Array.getElem?_eq_getElem (by rw [size_flatK]; exact ht)]
 ·
  rw [List.getElem?_eq_none (by rw [Array.length_toList, size_flatK]; omega), List.getElem?_eq_none (by rw [hl]; omega)]
theorem sortSt {w0 w : World} {M : List Ent} {g cap n : Nat} {T : TypeId} (hk : ∀ i, (enc i).length = k) (h1 : ∀ i, ∀ v ∈ enc i, v.oneCell' = true) (d : Array Nat) (hd : d.size = n) (hst : St w0 w (.own (some ⟨g, 0, none⟩) cap T k n (d.toList.map enc) :: M)) (hn : 0 < n) :
  HoldsK enc k w g 0 d ∧ g < w.heap.size ∧ ∀ (d' : Array Nat) (m : Nat) (os : Array Obj), d'.size = n → St w0 (sortWorldK enc k w g 0 m d' os) (.own (some ⟨g, 0, none⟩) cap T k n (d'.toList.map enc) :: M) := by
 obtain ⟨hown, hrd⟩ := hst.ok (.own (some ⟨g, 0, none⟩) cap T k n (d.toList.map enc)) (by simp)
 have hlt : g < w.heap.size := Ent.ok_lt (hst.ok (.own (some ⟨g, 0, none⟩) cap T k n (d.toList.map enc)) (by simp)) ⟨_, rfl, rfl⟩
 have hfl := flatK_toList hk d
 obtain ⟨hol, hor⟩ := hown
 rcases hor with ⟨hv, _⟩ | ⟨g', cap', cur, hv, hbase, hheap, h2, h3, h4, h5⟩
 ·
  cases hv
 ·
  injection hv with hv1 hv2 hv3
  injection hv1 with hv1
  injection hv1 with hv1
  subst hv1 hv3
  refine ⟨fun j hj => ?_, hlt, fun d' m os hd' => ?_⟩
  ·
   rw [size_flatK, hd] at hj
   have hjc : j < cur.size := by rw [h4]; exact Nat.lt_of_lt_of_le hj (Nat.mul_le_mul_right _ h2)
   have hget : (flatK enc k d)[j]! = cur[j] := by
    have h6 : cur.toList[j]? = (flatK enc k d).toList[j]? := by
     rw [hfl, ← h5, List.getElem?_take, if_pos hj]
    rw [Array.getElem?_toList, Array.getElem?_toList, Array.getElem?_eq_getElem hjc, Array.getElem?_eq_getElem (by rw [size_flatK, hd]; exact hj)] at h6
    rw [getElem!_pos _ j (by rw [size_flatK, hd]; exact hj)]
    exact (Option.some.inj h6).symm
   rw [hget, Nat.zero_add]
   constructor
   ·
    rw [cell_of_row w g j _ T (0, 0) hheap, Array.getElem?_eq_getElem hjc]; rfl
   ·
    exact frozen_of_row w g j _ T hheap
  ·
   have hfl' := flatK_toList hk d'
   have hheap' : (sortWorldK enc k w g 0 m d' os).heap[g]? = some (.cells (putCells id 0 (flatK enc k d') cur) T (0, 0)) := by
    unfold sortWorldK grow putRowK putRow
    dsimp only
    have hsz : g < (mapBlock (Sort.ahead w m) g (putCells id 0 (flatK enc k d'))).heap.size := by
     unfold mapBlock; simp [Sort.ahead]; exact hlt
    rw [Array.getElem?_append_left hsz]
    unfold mapBlock
    simp only [Array.getElem?_modify, if_pos]
    rw [show (Sort.ahead w m).heap = w.heap from rfl, hheap]
    rfl
   have hother : ∀ q, q < w.heap.size → q ≠ g → (sortWorldK enc k w g 0 m d' os).heap[q]? = w.heap[q]? := fun q hq hne => by
    unfold sortWorldK grow putRowK putRow
    dsimp only
    have hsz : q < (mapBlock (Sort.ahead w m) g (putCells id 0 (flatK enc k d'))).heap.size := by
     unfold mapBlock; simp [Sort.ahead]; exact hq
    rw [Array.getElem?_append_left hsz]
    unfold mapBlock
    simp only [Array.getElem?_modify]
    rw [if_neg (fun e => hne e.symm)]; rfl
   have hs : ∀ c ∈ d'.toList.map enc, c.length = k := fun c hc => by
    obtain ⟨i, _, rfl⟩ := List.mem_map.1 hc; exact hk i
   have ho : ∀ c ∈ d'.toList.map enc, ∀ v ∈ c, v.oneCell' = true := fun c hc v hv => by
    obtain ⟨i, _, rfl⟩ := List.mem_map.1 hc; exact h1 i v hv
   have hflen : (flatK enc k d').toList.length = n * k := by rw [Array.length_toList, size_flatK, hd']
   have hown' : (sortWorldK enc k w g 0 m d' os).ownsRow 0 T k (.slice (some ⟨g, 0, none⟩) n cap) n (d'.toList.map enc).flatten := by
    refine ⟨by rw [← hfl', hflen], .inr ⟨g, cap, _, rfl, hbase, hheap', h2, h3, by simp [putCells, h4], ?_⟩⟩
    rw [← hfl']
    refine List.ext_getElem? fun t => ?_
    rw [List.getElem?_take]
    by_cases ht : t < n * k
    ·
     rw [if_pos ht, Array.getElem?_toList, Array.getElem?_toList]
     have htc : t < cur.size := by rw [h4]; exact Nat.lt_of_lt_of_le ht (Nat.mul_le_mul_right _ h2)
     have hts : t < (flatK enc k d').size := by rw [size_flatK, hd']; exact ht
     unfold putCells
     rw [Array.getElem?_mapIdx, Array.getElem?_eq_getElem htc, Option.map_some, if_pos ⟨Nat.zero_le _, by omega⟩, Array.getElem?_eq_getElem hts, Nat.sub_zero, getElem!_pos _ t hts]
     rfl
    ·
     rw [if_neg ht, List.getElem?_eq_none (by rw [hflen]; omega)]
   refine hst.turn rfl (fun q hq hnf => hother q hq fun e => hnf ⟨_, rfl, e.symm⟩) rfl rfl rfl ?_ ⟨hown', rd_own hown' (by simp [hd']) hs ho⟩ (fun q hq => .inl hq) (by
    show w.drawn ≤ w.drawn + m
    omega)
   unfold sortWorldK grow putRowK putRow mapBlock
   simp [Sort.ahead]
end
end Go.Proofs.YtpmmgljndceplaaGreat

namespace Go.Proofs.YtpmmgljndceplaaGreat
open Go Go.Shelf
def sortB_ren : Go.Shelf.Ren := ⟨fun | 6 => 43 | 15 => 70 | 14 => 69 | 28 => 112 | 29 => 113 | 20 => 104 | 21 => 105 | 22 => 106 | 23 => 107 | 24 => 108 | 25 => 109 | 26 => 110 | 27 => 111 | 46 => 128 | 47 => 129 | 48 => 130 | 49 => 131 | 50 => 132 | 57 => 139 | n => n, fun | 22 => 69 | 24 => 40 | 25 => 119 | 3 => 3 | 39 => 150 | 0 => 0 | 53 => 197 | 55 => 199 | 4 => 4 | 46 => 190 | 45 => 189 | 50 => 194 | 5 => 5 | 9 => 9 | 66 => 216 | 70 => 220 | 76 => 227 | 77 => 172 | n => n, fun | n => n⟩
theorem sortB : Go.Proofs.SlLaysF0.n6 Tryz.prog sortB_ren := {
 mixed := by kernel_rfl
 f6 := ⟨Tryz.f43.name, by decide, Tryz.func43.trans (congrArg some (by kernel_rfl))⟩
 f14 := ⟨Tryz.f69.name, by decide, Tryz.func69.trans (congrArg some (by kernel_rfl))⟩
 f15 := Tryz.func70.trans (congrArg some (by kernel_rfl))
 f20 := ⟨Tryz.f104.name, by decide, Tryz.func104.trans (congrArg some (by kernel_rfl))⟩
 f21 := ⟨Tryz.f105.name, by decide, Tryz.func105.trans (congrArg some (by kernel_rfl))⟩
 f22 := ⟨Tryz.f106.name, by decide, Tryz.func106.trans (congrArg some (by kernel_rfl))⟩
 f23 := ⟨Tryz.f107.name, by decide, Tryz.func107.trans (congrArg some (by kernel_rfl))⟩
 f24 := ⟨Tryz.f108.name, by decide, Tryz.func108.trans (congrArg some (by kernel_rfl))⟩
 f25 := ⟨Tryz.f109.name, by decide, Tryz.func109.trans (congrArg some (by kernel_rfl))⟩
 f26 := ⟨Tryz.f110.name, by decide, Tryz.func110.trans (congrArg some (by kernel_rfl))⟩
 f27 := ⟨Tryz.f111.name, by decide, Tryz.func111.trans (congrArg some (by kernel_rfl))⟩
 f28 := Tryz.func112.trans (congrArg some (by kernel_rfl))
 f29 := Tryz.func113.trans (congrArg some (by kernel_rfl))
 f46 := ⟨Tryz.f128.name, by decide, Tryz.func128.trans (congrArg some (by kernel_rfl))⟩
 f47 := Tryz.func129.trans (congrArg some (by kernel_rfl))
 f48 := Tryz.func130.trans (congrArg some (by kernel_rfl))
 f49 := ⟨Tryz.f131.name, by decide, Tryz.func131.trans (congrArg some (by kernel_rfl))⟩
 f50 := ⟨Tryz.f132.name, by decide, Tryz.func132.trans (congrArg some (by kernel_rfl))⟩
 f57 := ⟨Tryz.f139.name, by decide, Tryz.func139.trans (congrArg some (by kernel_rfl))⟩
 t0 := Tryz.underlying0
 a0 := Tryz.isAgg0
 z0 := Tryz.sizeOf0
 v0 := Tryz.zeroValue0
 t3 := Tryz.underlying3
 a3 := Tryz.isAgg3
 z3 := Tryz.sizeOf3
 v3 := Tryz.zeroValue3
 t4 := Tryz.underlying4
 a4 := Tryz.isAgg4
 z4 := Tryz.sizeOf4
 v4 := Tryz.zeroValue4
 t5 := Tryz.underlying5
 a5 := Tryz.isAgg5
 z5 := Tryz.sizeOf5
 v5 := Tryz.zeroValue5
 t9 := Tryz.underlying9
 a9 := Tryz.isAgg9
 z9 := Tryz.sizeOf9
 v9 := Tryz.zeroValue9
 t22 := Tryz.underlying69
 a22 := Tryz.isAgg69
 z22 := Tryz.sizeOf69
 v22 := Tryz.zeroValue69
 t25 := Tryz.underlying119
 a25 := Tryz.isAgg119
 z25 := Tryz.sizeOf119
 v25 := Tryz.zeroValue119
 t39 := Tryz.underlying150
 a39 := Tryz.isAgg150
 z39 := Tryz.sizeOf150
 v39 := Tryz.zeroValue150
 t45 := Tryz.underlying189
 a45 := Tryz.isAgg189
 z45 := Tryz.sizeOf189
 v45 := Tryz.zeroValue189
 t46 := Tryz.underlying190
 a46 := Tryz.isAgg190
 z46 := Tryz.sizeOf190
 v46 := Tryz.zeroValue190
 t50 := Tryz.underlying194
 a50 := Tryz.isAgg194
 z50 := Tryz.sizeOf194
 v50 := Tryz.zeroValue194
 t53 := Tryz.underlying197
 a53 := Tryz.isAgg197
 z53 := Tryz.sizeOf197
 v53 := Tryz.zeroValue197
 t55 := Tryz.underlying199
 a55 := Tryz.isAgg199
 z55 := Tryz.sizeOf199
 v55 := Tryz.zeroValue199
 t66 := Tryz.underlying216
 a66 := Tryz.isAgg216
 z66 := Tryz.sizeOf216
 v66 := Tryz.zeroValue216
 t70 := Tryz.underlying220
 a70 := Tryz.isAgg220
 z70 := Tryz.sizeOf220
 v70 := Tryz.zeroValue220
 t76 := Tryz.underlying227
 a76 := Tryz.isAgg227
 z76 := Tryz.sizeOf227
 v76 := Tryz.zeroValue227
 t77 := Tryz.underlying172
 a77 := Tryz.isAgg172
 z77 := Tryz.sizeOf172
 v77 := Tryz.zeroValue172 }
end Go.Proofs.YtpmmgljndceplaaGreat

namespace Go.Proofs.YtpmmgljndceplaaGreat
open Go Go.RowKit Go.Sort

def atX (bs : List BA) (i : Nat) : BA := bs.getD i ⟨⟨[], (0, 0), (0, 0)⟩, none, 0⟩
theorem atX_all {bs : List BA} {p : BA → Prop} (h : ∀ x ∈ bs, p x) (h0 : p ⟨⟨[], (0, 0), (0, 0)⟩, none, 0⟩) (i : Nat) : p (atX bs i) := by
 unfold atX
 rw [List.getD_eq_getElem?_getD]
 cases hb : bs[i]? with
 | none => exact h0
 | some x => exact h x (List.mem_of_getElem? hb)
theorem atX_range (bs : List BA) : (List.range bs.length).map (atX bs) = bs := by
 refine List.ext_getElem? fun i => ?_
 rw [List.getElem?_map]
 by_cases h : i < bs.length
 ·
  rw [List.getElem?_range h, Option.map_some, atX, List.getD_eq_getElem?_getD, List.getElem?_eq_getElem h]; rfl
 ·
  rw [List.getElem?_eq_none (by simpa using h), List.getElem?_eq_none (by omega)]; rfl
abbrev cfX (bs : List BA) (i j : Nat) : Int := cmpB (atX bs i).b (atX bs j).b
theorem swoX (bs : List BA) : SWO (ltOf (cfX bs)) where
 irrefl i := by unfold ltOf; exact decide_eq_false (by rw [show cfX bs i i = 0 from cmpB_zero.2 rfl]; decide)
 trans i j k h1 h2 := by
  unfold ltOf at *
  exact decide_eq_true (cmpB_trans (of_decide_eq_true h1) (of_decide_eq_true h2))
 ntrans i j k h1 h2 := by
  unfold ltOf at *
  have n1 := of_decide_eq_false h1
  have n2 := of_decide_eq_false h2
  refine decide_eq_false fun h3 => ?_
  by_cases e1 : (atX bs i).b = (atX bs j).b
  ·
   rw [show cfX bs i k = cfX bs j k by unfold cfX; rw [e1]] at h3; exact n2 h3
  ·
   have h4 := cmpB_pos n1 e1
   exact n2 (cmpB_trans h4 h3)
theorem sort_ok : SortOk Tryz.prog 40 43 39 := by
 intro E bs A n c hl hn hn2 hE hS
 refine ⟨fun w0 w R hst => ?_⟩
 have hE0 : ∀ i w, E.ok w → Rd w (atX bs i).A 2 (atX bs i).b.st.length (encP (atX bs i).b.st) := fun i w hw => atX_all (bs := bs) (p := fun x => Rd w x.A 2 x.b.st.length (encP x.b.st)) (fun x hx => hE x hx w hw) (Rd.nil w none 2) i
 have hS0 : ∀ i, BrdSm (atX bs i).b := fun i => atX_all (bs := bs) (p := fun x => BrdSm x.b) hS ⟨fun p hp => (by cases hp), ⟨by decide, by decide⟩, ⟨by decide, by decide⟩, by decide⟩ i
 have henc : ((Array.range n).toList.map fun i => (atX bs i).cells) = encX bs := by
  rw [Array.toList_range, ← hl]
  show (List.range bs.length).map (BA.cells ∘ atX bs) = _
  rw [← List.map_map, atX_range]; rfl
 have hrd := (hst.ok (.own A c 40 5 n (encX bs)) (by simp)).2
 obtain ⟨ad, rfl⟩ := hrd.some_ hn
 obtain ⟨g, rfl⟩ : ∃ g, ad = ⟨g, 0, none⟩ := by
  have hown := (hst.ok (.own (some ad) c 40 5 n (encX bs)) (by simp)).1
  rcases hown.2 with ⟨hv, _⟩ | ⟨g, cap', cur, hv, _⟩
  ·
   cases hv
  ·
   injection hv with h1; injection h1 with h1; exact ⟨g, h1⟩
 have hst2 : St w0 w (.own (some ⟨g, 0, none⟩) c 40 5 n ((Array.range n).toList.map fun i => (atX bs i).cells) :: E :: R) := by rw [henc]; exact hst
 obtain ⟨hH, hlt, hfin⟩ := sortSt (enc := fun i => (atX bs i).cells) (fun i => rfl) (fun i v hv => by
  simp only [BA.cells, Brd.cells, List.mem_cons, List.mem_nil_iff, or_false] at hv
  rcases hv with rfl | rfl | rfl | rfl | rfl <;> rfl) (Array.range n) (by simp) hst2 hn
 have hcmp : CmpLays Tryz.prog 39 #[] (fun i => (atX bs i).cells) 5 (cfX bs) g 0 n w := fun m os dk hdk x y => by
  have hW := hfin dk m os hdk
  have hEW := hW.ok E (by simp)
  have hc := C_Boards1 (atX bs x).b (atX bs y).b (atX bs x).A (atX bs y).A (atX bs x).c (atX bs y).c (hS0 x) (hS0 y) _ (hE0 x _ hEW) (hE0 y _ hEW)
  exact Calls.mono hc.out fun e w' ⟨he, hs⟩ => ⟨he, blw_grow hs.below⟩
 have hcon := AnyQ.slices_SortFunc sortB 5 (fun w => run_isAgg (P := Tryz.prog) (t := 40) inferInstance w) (fun w => run_sizeOf (P := Tryz.prog) (t := 40) inferInstance w) (fun i => (atX bs i).cells) (fun i => rfl) (fun i v hv => by
  simp only [BA.cells, Brd.cells, List.mem_cons, List.mem_nil_iff, or_false] at hv
  rcases hv with rfl | rfl | rfl | rfl | rfl <;> rfl) (cfX bs) (swoX bs) 39 #[] g 0 c (Array.range n) w (run_callFunc inferInstance) (by simpa using hcmp) hH hlt (by simp; omega)
 simp only [Array.size_range] at hcon
 refine Calls.mono hcon fun e w' ⟨he, d', m, os, hp, hs, hw⟩ => ?_
 subst hw
 have hd' : d'.size = n := by have := hp.1; simpa using this
 have hperm : d'.toList.Perm (List.range n) := by
  have h1 := hp.2.2
  rw [show d'.extract 0 n = d' by rw [← hd']; simp, show (Array.range n).extract 0 n = Array.range n by simp, Array.toList_range] at h1
  exact h1
 refine ⟨d'.toList.map (atX bs), ⟨?_, ?_⟩, he, ?_⟩
 ·
  have h1 := hperm.map (atX bs)
  rwa [← hl, atX_range] at h1
 ·
  rw [List.map_map]
  refine List.pairwise_iff_getElem.2 fun i j hi hj hij => ?_
  simp only [List.length_map, Array.length_toList] at hi hj
  have h1 := hs i j (Nat.zero_le _) hij (by omega)
  unfold ltOf at h1
  have h2 := of_decide_eq_false h1
  rw [getElem!_pos d' i (by omega), getElem!_pos d' j (by omega)] at h2
  simp only [List.getElem_map, Function.comp, Array.getElem_toList]
  by_cases e : cmpB (atX bs d'[i]).b (atX bs d'[j]).b ≤ 0
  ·
   exact e
  ·
   exact absurd (cmpB_neg.2 (by omega)) h2
 ·
  have h1 := hfin d' m os hd'
  rw [show encX (d'.toList.map (atX bs)) = d'.toList.map fun i => (atX bs i).cells by unfold encX; rw [List.map_map]; rfl]
  exact h1
theorem C_card_Boards (f : Fmt) (cf : Int) (xs : List Nt) (A : Option Addr) (n c : Nat) (w : World) (h : Rd w A 4 n (encN xs)) (hn : n ≤ 9223372036854775807) (hsm : chkC f cf xs = 0 → mostS xs ≤ 400) (hbig : (crowdC f cf xs).length ≤ 4194304) :
  CR Tryz.prog 16 [.agg (cardC f cf A n c).toArray] w (BdOk f cf xs) (bdV (posE f cf xs)) (bdE 40) := C_card_Boards' sort_ok f cf xs A n c w h hn hsm (fun _ => hbig)
end Go.Proofs.YtpmmgljndceplaaGreat

namespace Go.Proofs.YtpmmgljndceplaaGreat
open Go Go.RowKit

end Go.Proofs.YtpmmgljndceplaaGreat

namespace Go.Proofs.YtpmmgljndceplaaGreat
open Go Go.RowKit

def misN (x : Nt) : Int := bif decide (x.kind = 2) then x.pair.2 else 0
def misS (xs : List Nt) : Int := (xs.map misN).sum
theorem put_len (l : List En) (e : En) : (putC l e).length ≤ l.length + 1 := by
 induction l with
 | nil => exact Nat.le_refl _
 | cons x l ih =>
  rw [putC]
  by_cases h : x.1 = e.1
  ·
   rw [if_pos h]; simp
  ·
   rw [if_neg h]; simp only [List.length_cons]; omega
theorem norm_len (l : List En) : (normC l).length ≤ l.length := by
 have : ∀ (l acc : List En), (l.foldl putC acc).length ≤ acc.length + l.length := fun l => by
  induction l with
  | nil => intro acc; exact Nat.le_refl _
  | cons e l ih =>
   intro acc
   have h1 := ih (putC acc e)
   have h2 := put_len acc e
   rw [List.foldl_cons, List.length_cons]; omega
 have := this l []
 rw [normC]; simpa using this
theorem go_len (f : Fmt) (side : Int) (e : En) (p : Int) : (goE f side e p).length ≤ 1 := by
 unfold goE
 by_cases h : side = -1 ∨ side = p
 ·
  rw [if_pos h]; cases nxtS f e.1 p <;> simp
 ·
  rw [if_neg h]; simp
theorem step_len (f : Fmt) (l : List En) (side : Int) : (stepC f l side).length ≤ 2 * l.length := by
 refine Nat.le_trans (norm_len _) ?_
 unfold stepI
 induction l with
 | nil => simp
 | cons e l ih =>
  have h0 := go_len f side e 0
  have h1 := go_len f side e 1
  rw [List.flatMap_cons, List.length_append, List.length_append, List.length_cons]; omega
theorem iter_len (f : Fmt) (l : List En) : ∀ k, (iterC f l k).length ≤ 2 ^ k * l.length
 | 0 => by simp [iterC]
 | k + 1 => by
  have h1 := step_len f (iterC f l k) (-1)
  have h2 := iter_len f l k
  show (stepC f (iterC f l k) (-1)).length ≤ _
  rw [Nat.pow_succ, Nat.mul_comm (2 ^ k) 2, Nat.mul_assoc]
  omega
theorem missI_len (f : Fmt) (l : List En) (a : Int) : ∀ k, (missI f l a k).length + l.length ≤ 2 ^ k * l.length
 | 0 => by simp [missI]
 | k + 1 => by
  have h1 := missI_len f l a k
  have h2 := iter_len f l k
  have h3 : (if a ≤ (k : Int) then iterC f l k else []).length ≤ (iterC f l k).length := by
   by_cases h : a ≤ (k : Int)
   ·
    rw [if_pos h]; exact Nat.le_refl _
   ·
    rw [if_neg h]; exact Nat.zero_le _
  rw [missI, List.length_append, Nat.pow_succ, Nat.mul_comm (2 ^ k) 2, Nat.mul_assoc]
  omega
def expN (x : Nt) : Nat := 1 + (misN x).toNat
theorem after_len (f : Fmt) (l : List En) (x : Nt) : (afterC f l x).length ≤ 2 ^ expN x * l.length := by
 unfold afterC
 by_cases h1 : x.kind = 1
 ·
  rw [if_pos h1]
  have := step_len f l x.side
  have e : expN x = 1 := by unfold expN misN; rw [decide_eq_false (by omega)]; rfl
  rw [e]; omega
 ·
  rw [if_neg h1]
  by_cases h2 : x.kind = 2
  ·
   rw [if_pos h2]
   have e : expN x = x.pair.2.toNat + 1 := by unfold expN misN; rw [decide_eq_true h2]; show 1 + x.pair.2.toNat = _; omega
   have h3 := missI_len f l x.pair.1 (x.pair.2.toNat + 1)
   have h4 := norm_len (missI f l x.pair.1 (x.pair.2.toNat + 1))
   rw [e]
   show (normC _).length ≤ _
   omega
  ·
   rw [if_neg h2]
   have h3 : (testC f x l).length ≤ l.length := List.length_filter_le ..
   have h4 : 1 ≤ 2 ^ expN x := Nat.one_le_two_pow
   exact Nat.le_trans h3 (Nat.le_mul_of_pos_left _ h4)
def expS (xs : List Nt) : Nat := (xs.map expN).sum
theorem crowd_len (f : Fmt) (cf : Int) (xs : List Nt) : (crowdC f cf xs).length ≤ 2 ^ expS xs * 2 := by
 have key : ∀ (xs : List Nt) (l : List En), (xs.foldl (afterC f) l).length ≤ 2 ^ expS xs * l.length := fun xs => by
  induction xs with
  | nil => intro l; simp [expS]
  | cons x xs ih =>
   intro l
   rw [List.foldl_cons]
   refine Nat.le_trans (ih _) ?_
   have h1 := after_len f l x
   have : expS (x :: xs) = expN x + expS xs := by unfold expS; rw [List.map_cons, List.sum_cons]
   rw [this, Nat.pow_add, Nat.mul_comm (2 ^ expN x), Nat.mul_assoc]
   exact Nat.mul_le_mul_left _ h1
 refine Nat.le_trans (key xs (begC cf)) (Nat.mul_le_mul_left _ ?_)
 unfold begC
 rw [List.length_append]
 have : ∀ (p : Prop) [Decidable p] (e : En), (if p then [e] else []).length ≤ 1 := fun p _ e => by
  by_cases h : p
  ·
   rw [if_pos h]; exact Nat.le_refl _
  ·
   rw [if_neg h]; exact Nat.zero_le _
 have h1 := this (cf = -1 ∨ cf = 0) (⟨0, [], (0, 0), (0, 0)⟩, (0, 0, 0))
 have h2 := this (cf = -1 ∨ cf = 1) (⟨1, [], (0, 0), (0, 0)⟩, (0, 0, 0))
 omega
theorem exp_mis {xs : List Nt} (h : ∀ x ∈ xs, mkV x = true) : (expS xs : Int) = xs.length + misS xs ∧ mostS xs ≤ xs.length + misS xs ∧ 0 ≤ misS xs := by
 induction xs with
 | nil => exact ⟨rfl, Int.le_refl _, Int.le_refl _⟩
 | cons x xs ih =>
  obtain ⟨h1, h2, h3⟩ := ih fun y hy => h y (by simp [hy])
  have hk := mk_kind (h x (by simp))
  have h4 : 0 ≤ misN x ∧ mostN x ≤ 1 + misN x := by
   unfold misN mostN
   by_cases e1 : x.kind = 1
   ·
    rw [decide_eq_false (by omega), if_pos e1]; exact ⟨Int.le_refl _, by show (1 : Int) ≤ 1 + 0; omega⟩
   ·
    rw [if_neg e1]
    by_cases e2 : x.kind = 2
    ·
     have := hk.2.2.1 e2
     rw [decide_eq_true e2, if_pos e2]
     show 0 ≤ x.pair.2 ∧ x.pair.2 ≤ 1 + x.pair.2
     omega
    ·
     rw [decide_eq_false e2, if_neg e2]; exact ⟨Int.le_refl _, by show (0 : Int) ≤ 1 + 0; omega⟩
  have e1 : expS (x :: xs) = expN x + expS xs := by unfold expS; rw [List.map_cons, List.sum_cons]
  have e2 : misS (x :: xs) = misN x + misS xs := by unfold misS; rw [List.map_cons, List.sum_cons]
  have e3 : mostS (x :: xs) = mostN x + mostS xs := by unfold mostS; rw [List.map_cons, List.sum_cons]
  rw [e1, e2, e3, List.length_cons]
  unfold expN
  omega
structure Rdy (f : Fmt) (cf : Int) (xs : List Nt) : Prop where
 c : chkC f cf xs = 0
 n : xs.length ≤ 12
 m : mostS xs ≤ 20
 b : (crowdC f cf xs).length ≤ 4194304
 mks : ∀ x ∈ xs, mkV x = true
 ok : f.Ok
 cf : -1 ≤ cf ∧ cf ≤ 1
 mis : misS xs ≤ 8
theorem rdy_of {f : Fmt} {cf : Int} {xs : List Nt} (h1 : chkC f cf xs = 0) (hn : xs.length ≤ 12) (hm : misS xs ≤ 8) : Rdy f cf xs := by
 obtain ⟨h2, h3, h4, h5, h6, h7⟩ := chk_facts h1
 obtain ⟨e1, e2, e3⟩ := exp_mis h6
 have hl := crowd_len f cf xs
 have he : expS xs ≤ 20 := by omega
 have hp : 2 ^ expS xs ≤ 2 ^ 20 := Nat.pow_le_pow_right (by omega) he
 exact ⟨h1, hn, by omega, by omega, h6, h3, h4, hm⟩
end Go.Proofs.YtpmmgljndceplaaGreat

namespace Go.Proofs.YtpmmgljndceplaaGreat
open Go Go.RowKit

def exX : List Nt := [⟨1, 0, (0, 0)⟩, ⟨2, 0, (2, 4)⟩, ⟨3, 0, (3, 1)⟩, ⟨2, 0, (1, 1)⟩, ⟨4, 0, (1, 0)⟩]
theorem C_law3_Example (w : World) : CR Tryz.prog 23 [] w (fun _ : Nat => True) (fun b => .agg (cardC exF 0 (some ⟨b, 0, none⟩) 5 5).toArray) (fun b => [.own (some ⟨b, 0, none⟩) 5 101 4 5 (encN exX)]) := by
 refine ⟨en Tryz.func23 Tryz.ntmps23 (St.init w) (h := fun F => ?_)⟩
 refine sr ?_
 refine al (h := fun b0 => ?_)
 refine nr ?_
 refine cl (hc := fun w hS => C_law1_Example w) (h := fun x0 _ => ?_)
 iterate 3 refine ww ?_
 refine al (h := fun b1 => ?_)
 first | refine stA (h := ?_) | refine stEA (h := ?_)
 refine ww ?_
 refine nr ?_
 iterate 10 refine ww ?_
 refine bs (h := fun b2 => ?_)
 refine ww ?_
 first | refine stA (h := ?_) | refine stEA (h := ?_)
 refine nq ?_
 refine rtn ?_
 refine q_ret (hR := ?_)
 exact fun w hS => ⟨_, trivial, rfl, hS.sub slz_⟩
theorem ex_chk : chkC exF 0 exX = 0 := by kernel_rfl
theorem ex_bad : badC exF 0 exX = -1 := by kernel_rfl
theorem ex_most : mostS exX = 6 := by kernel_rfl
theorem ex_boards : boardsC (keyC (crowdC exF 0 exX)) = [⟨[], (1, 0), (0, 0)⟩] := by kernel_rfl
theorem ex_len : (crowdC exF 0 exX).length = 1 := by kernel_rfl
end Go.Proofs.YtpmmgljndceplaaGreat

namespace Go.Proofs.YtpmmgljndceplaaGreat
open Go Go.RowKit

theorem ex_pos : posE exF 0 exX = 0 := by rw [posE, ex_chk, ex_bad]; rfl
end Go.Proofs.YtpmmgljndceplaaGreat

namespace Go.Proofs.YtpmmgljndceplaaGreat
open Go Go.RowKit

theorem chk_of {f : Fmt} {cf : Int} {xs : List Nt} (h1 : chkF f = 0) (h2 : -1 ≤ cf ∧ cf ≤ 1) (h3 : xs.length ≤ 30) (h4 : ∀ x ∈ xs, mkV x = true) (h5 : mostS xs ≤ 600) : chkC f cf xs = 0 := by
 have e1 : headB f cf xs.length = false := by
  unfold headB
  rw [decide_eq_true h1, show wi cf (-1) 1 = true from wi_iff.2 h2, decide_eq_false (by omega)]; rfl
 rw [chkC, e1, List.all_eq_true.2 h4, decide_eq_false (by omega)]; rfl
theorem misN_nn {x : Nt} (h : mkV x = true) : 0 ≤ misN x ∧ 0 ≤ mostN x := by
 have h1 := (exp_mis (xs := [x]) (by simpa using h)).2.2
 have h2 := most_bd h
 exact ⟨by simpa [misS] using h1, by omega⟩
theorem sub_sums {ys xs : List Nt} (hs : ys.Sublist xs) (h : ∀ x ∈ xs, mkV x = true) : misS ys ≤ misS xs ∧ mostS ys ≤ mostS xs := by
 induction hs with
 | slnil => exact ⟨Int.le_refl _, Int.le_refl _⟩
 | @cons l1 l2 a hs ih =>
  obtain ⟨h1, h2⟩ := ih fun x hx => h x (by simp [hx])
  obtain ⟨h3, h4⟩ := misN_nn (h a (by simp))
  have e2 : misS (a :: l2) = misN a + misS l2 := by unfold misS; rw [List.map_cons, List.sum_cons]
  have e3 : mostS (a :: l2) = mostN a + mostS l2 := by unfold mostS; rw [List.map_cons, List.sum_cons]
  omega
 | @cons_cons l1 l2 a hs ih =>
  obtain ⟨h1, h2⟩ := ih fun x hx => h x (by simp [hx])
  have e : ∀ l : List Nt, misS (a :: l) = misN a + misS l ∧ mostS (a :: l) = mostN a + mostS l := fun l => by unfold misS mostS; rw [List.map_cons, List.sum_cons, List.map_cons, List.sum_cons]; exact ⟨rfl, rfl⟩
  have e1 := e l1
  have e2 := e l2
  omega
theorem Rdy.sub {f : Fmt} {cf : Int} {ys xs : List Nt} (h : Rdy f cf xs) (hs : ys.Sublist xs) : Rdy f cf ys := by
 obtain ⟨h1, h2⟩ := sub_sums hs h.mks
 obtain ⟨c1, c2, c3, c4, c5, c6⟩ := chk_facts h.c
 have hn := h.n
 have hm := h.m
 have hi := h.mis
 have hl := hs.length_le
 exact rdy_of (chk_of c1 c3 (by omega) (fun x hx => c5 x (hs.subset hx)) (by omega)) (by omega) (by omega)
theorem Rdy.take {f : Fmt} {cf : Int} {xs : List Nt} (h : Rdy f cf xs) (k : Nat) : Rdy f cf (xs.take k) := h.sub (List.take_sublist _ _)
theorem bad_rng (f : Fmt) (cf : Int) (xs : List Nt) : -1 ≤ badC f cf xs ∧ badC f cf xs < xs.length := by
 unfold badC
 rcases fstC_spec (fun i => (crowdC f cf (xs.take (i + 1))).isEmpty) xs.length with ⟨h1, _⟩ | ⟨k, hk, h1, _⟩ <;> rw [h1] <;> omega
theorem Rdy.pos {f : Fmt} {cf : Int} {xs : List Nt} (h : Rdy f cf xs) : posE f cf xs = if badC f cf xs = -1 then 0 else 3 := by
 have hb := bad_rng f cf xs
 rw [posE, decide_eq_true h.c, cond_true]
 by_cases e : badC f cf xs = -1
 ·
  rw [if_pos e, e]; rfl
 ·
  rw [if_neg e, decide_eq_true (show 0 ≤ badC f cf xs by omega)]; rfl
theorem Rdy.all {f : Fmt} {cf : Int} {xs : List Nt} (h : Rdy f cf xs) : allB f cf xs = badC f cf xs := by rw [allB, decide_eq_true h.c]; rfl

section rules
variable {F : Fence} {P : Program} {ops : Array Oper} {Q : Exit → Act → World → Prop} {rest : List Oper} {n : Nat} {D : List Deferred} {l : Env} {w0 : World} {L M : List Ent}
variable {d : Nat} {ty : TypeId} {pos : String} {aft : Array Edge}
end rules
structure Lsr (f : Fmt) (cf : Int) (xs : List Nt) (cf' : Int) (xs' : List Nt) : Prop where
 len : xs'.length = xs.length
 sub : ∀ s, s ∈ keyC (crowdC f cf xs) → s ∈ keyC (crowdC f cf' xs')
theorem Rdy.bad_key {f : Fmt} {cf : Int} {xs : List Nt} (h : Rdy f cf xs) : badC f cf xs = -1 ↔ ∃ s, s ∈ keyC (crowdC f cf xs) := by
 rw [bad_none h.cf]
 cases hc : crowdC f cf xs with
 | nil => exact ⟨fun e => absurd rfl e, fun ⟨s, hs⟩ => by cases hs⟩
 | cons e l => exact ⟨fun _ => ⟨e.1, by simp [keyC]⟩, fun _ => by simp⟩
theorem Lsr.pos {f : Fmt} {cf cf' : Int} {xs xs' : List Nt} (h : Lsr f cf xs cf' xs') (hR : Rdy f cf xs) (hR' : Rdy f cf' xs') (h0 : posE f cf xs = 0) : posE f cf' xs' = 0 := by
 rw [hR.pos] at h0
 by_cases e : badC f cf xs = -1
 ·
  obtain ⟨s, hs⟩ := hR.bad_key.1 e
  rw [hR'.pos, if_pos (hR'.bad_key.2 ⟨s, h.sub s hs⟩)]
 ·
  rw [if_neg e] at h0; cases h0
theorem BdOk.some_ {f : Fmt} {cf : Int} {xs : List Nt} {o : Option BDR} (h : BdOk f cf xs o) (h0 : posE f cf xs = 0) : ∃ q, o = some q := by
 cases o with
 | none => exact absurd h0 h
 | some q => exact ⟨q, rfl⟩
theorem BdOk.mem {f : Fmt} {cf : Int} {xs : List Nt} {q : BDR} (h : BdOk f cf xs (some q)) (b : Brd) : b ∈ q.zs.map (·.b) ↔ ∃ s ∈ keyC (crowdC f cf xs), brdOf s = b := by
 rw [h.2.1]; exact (boards_facts _).2 b
end Go.Proofs.YtpmmgljndceplaaGreat

namespace Go.Proofs.YtpmmgljndceplaaGreat
open Go Go.RowKit

structure CW where
 (b : Nat) (ns : List Nd) (es : Array MapEntry) (c : Nat)
section
variable {w0 w : World} {M : List Ent}
end
section rules
variable {F : Fence} {P : Program} {Q : Exit → Act → World → Prop} {n : Nat} {D : List Deferred} {l : Env} {w0 : World} {L M : List Ent}
end rules
section rules2
variable {F : Fence} {P : Program} {ops : Array Oper} {Q : Exit → Act → World → Prop} {rest : List Oper} {n : Nat} {D : List Deferred} {l : Env} {w0 : World} {L M : List Ent}
end rules2
abbrev CW.v (q : CW) : List Value := [.map (some q.b)]
end Go.Proofs.YtpmmgljndceplaaGreat

namespace Go.Proofs.YtpmmgljndceplaaGreat
open Go Go.RowKit

theorem putNs_key {ns : List Nd} {x : Nd} {s : Spot} : s ∈ spotKs (putNs ns x) ↔ s ∈ spotKs ns ∨ s = x.s := by
 unfold putNs
 cases hg : getN ns x.s with
 | some o =>
  obtain ⟨h1, h2⟩ := getN_some hg
  refine ⟨.inl, fun h => h.elim id fun e => ?_⟩
  subst e
  exact List.mem_map.2 ⟨o, h1, h2⟩
 | none =>
  unfold spotKs
  rw [List.map_append, List.mem_append]
  simp
structure FwI (f : Fmt) (cf : Int) (xs : List Nt) (j : Nat) (N : List Nd) (mn : Nat → Pr) (ms : List CW) : Prop where
 len : ms.length = j + 1
 ok : PoolOk f N mn (15 * (mostS (xs.take j) + (j : Int)))
 cr : ∀ k q, ms[k]? = some q → CrIs N q.ns q.es q.c ∧ ∀ s, s ∈ spotKs q.ns ↔ Lft f cf xs j k s
theorem FwI.start {f : Fmt} {cf : Int} {xs : List Nt} {q : PR} (h : BgI f cf 2 q.N q.mn q.ns q.es q.c) : FwI f cf xs 0 q.N q.mn [⟨q.b, q.ns, q.es, q.c⟩] := by
 refine ⟨rfl, h.ok.up (by exact Int.le_refl _), fun k p hk => ?_⟩
 cases k with
 | succ k => simp at hk
 | zero =>
  obtain rfl : (⟨q.b, q.ns, q.es, q.c⟩ : CW) = p := by simpa using hk
  refine ⟨h.cr, fun s => ?_⟩
  have e := h.eqC
  rw [begTo_two] at e
  rw [← toC_keys q.mn q.ns, e]
  exact ⟨fun hs => ⟨rfl, hs⟩, fun hs => hs.2⟩
structure FnI (f : Fmt) (cf : Int) (xs : List Nt) (j : Nat) (m : Int) (N0 : List Nd) (k : Nat) (N : List Nd) (mn : Nat → Pr) (nx : List CW) : Prop where
 len : nx.length = k
 ok : PoolOk f N mn (15 * (mostS (xs.take j) + (j : Int)) + (k : Int) * m)
 sub : ∀ y ∈ N0, y ∈ N
 cr : ∀ i q, nx[i]? = some q → CrIs N q.ns q.es q.c ∧ ∀ s, s ∈ spotKs q.ns ↔ Lft f cf xs (j + 1) i s
theorem FwI.first {f : Fmt} {cf : Int} {xs : List Nt} {j : Nat} {N : List Nd} {mn : Nat → Pr} {ms : List CW} (h : FwI f cf xs j N mn ms) (m : Int) : FnI f cf xs j m N 0 N mn [] :=
 ⟨rfl, h.ok.up (by rw [show ((0 : Nat) : Int) * m = 0 from Int.zero_mul m]; omega), fun _ h => h, fun i q hq => by simp at hq⟩
structure FmI (f : Fmt) (cf : Int) (xs : List Nt) (j : Nat) (x : Nt) (m : Int) (N0 : List Nd) (k : Nat) (nx : List CW) (N : List Nd) (mn : Nat → Pr) (q : CW) : Prop where
 ok : PoolOk f N mn (15 * (mostS (xs.take j) + (j : Int)) + ((k + 1 : Nat) : Int) * m)
 sub : ∀ y ∈ N0, y ∈ N
 old : ∀ i p, nx[i]? = some p → CrIs N p.ns p.es p.c ∧ ∀ s, s ∈ spotKs p.ns ↔ Lft f cf xs (j + 1) i s
 cr : CrIs N q.ns q.es q.c
 keys : ∀ s, s ∈ spotKs q.ns ↔ ∃ t, Lft f cf xs j k t ∧ Rel f x t s
theorem FnI.read {f : Fmt} {cf : Int} {xs : List Nt} {j : Nat} {x : Nt} {m : Int} {N0 : List Nd} {k : Nat} {N : List Nd} {mn : Nat → Pr} {nx ms : List CW} {p : CW} {mn0 : Nat → Pr} (h : FnI f cf xs j m N0 k N mn nx) (hm : m = mostN x + 1) (h0 : FwI f cf xs j N0 mn0 ms) (hp : ms[k]? = some p) {q : PR} (hr : RdOk f N mn p.ns x (15 * (mostS (xs.take j) + (j : Int)) + (k : Int) * m) q) : FmI f cf xs j x m N0 k nx q.N q.mn ⟨q.b, q.ns, q.es, q.c⟩ := by
 refine ⟨hr.ok.up ?_, fun y hy => hr.sub y (h.sub y hy), fun i p hp => ⟨(h.cr i p hp).1.up hr.sub, (h.cr i p hp).2⟩, hr.cr, fun s => ?_⟩
 ·
  rw [show ((k + 1 : Nat) : Int) * m = (k : Int) * m + m by rw [Int.natCast_succ, Int.add_mul, Int.one_mul]]; omega
 ·
  have h1 : s ∈ spotKs q.ns ↔ s ∈ keyC (afterC f (toC mn p.ns) x) := by
   rw [← toC_keys q.mn q.ns]; exact (hr.eqC.map _).mem_iff
  rw [h1, after_mem]
  refine ⟨fun ⟨t, ht, hx⟩ => ⟨t, ?_, hx⟩, fun ⟨t, ht, hx⟩ => ⟨t, ?_, hx⟩⟩
  ·
   rw [toC_keys] at ht; exact ((h0.cr k p hp).2 t).1 ht
  ·
   rw [toC_keys]; exact ((h0.cr k p hp).2 t).2 ht
theorem FnI.none {f : Fmt} {cf : Int} {xs : List Nt} {j : Nat} {x : Nt} {m : Int} {N0 : List Nd} {k : Nat} {N : List Nd} {mn : Nat → Pr} {nx : List CW} (h : FnI f cf xs j m N0 k N mn nx) (hm : 0 ≤ m) (hk : j < k) (b : Nat) : FmI f cf xs j x m N0 k nx N mn ⟨b, [], #[], 0⟩ := by
 refine ⟨h.ok.up ?_, h.sub, h.cr, CrIs.nil N, fun s => ⟨fun hs => (by cases hs), fun ⟨t, ht, _⟩ => ?_⟩⟩
 ·
  rw [show ((k + 1 : Nat) : Int) * m = (k : Int) * m + m by rw [Int.natCast_succ, Int.add_mul, Int.one_mul]]; omega
 ·
  have := lft_le ht; omega
structure FpI (f : Fmt) (K : Int) (N1 : List Nd) (q : CW) (N : List Nd) (mn : Nat → Pr) (ns : List Nd) (es : Array MapEntry) (c : Nat) (dn : List Nd) : Prop where
 ok : PoolOk f N mn K
 sub : ∀ y ∈ N1, y ∈ N
 cr : CrIs N ns es c
 keys : ∀ s, s ∈ spotKs ns ↔ s ∈ spotKs q.ns ∨ s ∈ spotKs dn
theorem FpI.put {f : Fmt} {K : Int} {N1 : List Nd} {q : CW} {N : List Nd} {mn : Nat → Pr} {ns : List Nd} {es : Array MapEntry} {c : Nat} {dn : List Nd} (h : FpI f K N1 q N mn ns es c dn) {x : Nd} {b : Nat} (hcp : PoolOk f (⟨b, x.s, x.bf, x.sd⟩ :: N) (upN mn b (mn x.b)) K) {es2 : Array MapEntry} {c2 : Nat} (hm : MapIs es2 (crE (putNs ns ⟨b, x.s, x.bf, x.sd⟩)) ∧ Stm es2 c2) : FpI f K N1 q (⟨b, x.s, x.bf, x.sd⟩ :: N) (putM ns (upN mn b (mn x.b)) ⟨b, x.s, x.bf, x.sd⟩) (putNs ns ⟨b, x.s, x.bf, x.sd⟩) es2 c2 (dn ++ [x]) := by
 have hup : CrIs (⟨b, x.s, x.bf, x.sd⟩ :: N) ns es c := h.cr.up fun y hy => List.mem_cons_of_mem _ hy
 refine ⟨putM_ok hcp hup.sub List.mem_cons_self, fun y hy => List.mem_cons_of_mem _ (h.sub y hy), hup.put List.mem_cons_self hm, fun s => ?_⟩
 rw [putNs_key, h.keys s]
 unfold spotKs
 rw [List.map_append, List.mem_append]
 simp only [List.map_cons, List.map_nil, List.mem_singleton, or_assoc]
theorem FnI.next {f : Fmt} {cf : Int} {xs : List Nt} {j : Nat} {x : Nt} {m : Int} {N0 : List Nd} {k : Nat} {nx : List CW} {N N1 : List Nd} {mn mn1 : Nat → Pr} {q q' : CW} (hl : nx.length = k) (hx : xs[j]? = some x) (h : FmI f cf xs j x m N0 k nx N1 mn1 q) (ok : PoolOk f N mn (15 * (mostS (xs.take j) + (j : Int)) + ((k + 1 : Nat) : Int) * m)) (sub : ∀ y ∈ N1, y ∈ N) (cr : CrIs N q'.ns q'.es q'.c) (keys : ∀ s, s ∈ spotKs q'.ns ↔ s ∈ spotKs q.ns ∨ ∃ k', k = k' + 1 ∧ Lft f cf xs j k' s) : FnI f cf xs j m N0 (k + 1) N mn (nx ++ [q']) := by
 refine ⟨by rw [List.length_append, hl]; rfl, ok, fun y hy => sub y (h.sub y hy), fun i p hp => ?_⟩
 by_cases e : i < k
 ·
  rw [List.getElem?_append_left (by omega)] at hp
  exact ⟨(h.old i p hp).1.up sub, (h.old i p hp).2⟩
 ·
  rw [List.getElem?_append_right (by omega)] at hp
  obtain ⟨rfl, hk⟩ : q' = p ∧ i = k := by
   cases hd : i - nx.length with
   | zero => rw [hd] at hp; exact ⟨by simpa using hp, by omega⟩
   | succ d => rw [hd] at hp; simp at hp
  subst hk
  refine ⟨cr, fun s => ?_⟩
  rw [keys s, h.keys s]
  constructor
  ·
   rintro (⟨t, ht, hr⟩ | ⟨k', e, hs⟩)
   ·
    exact .inl ⟨x, t, hx, ht, hr⟩
   ·
    exact .inr ⟨k', e, hs⟩
  ·
   rintro (⟨y, t, hy, ht, hr⟩ | ⟨k', e, hs⟩)
   ·
    rw [hx] at hy; cases hy
    exact .inl ⟨t, ht, hr⟩
   ·
    exact .inr ⟨k', e, hs⟩
theorem FnI.done {f : Fmt} {cf : Int} {xs : List Nt} {j : Nat} {x : Nt} {m : Int} {N0 N : List Nd} {mn : Nat → Pr} {nx : List CW} {k : Nat} (h : FnI f cf xs j m N0 k N mn nx) (hk : k = j + 2) (hx : xs[j]? = some x) (hm : m = mostN x + 1) (hm0 : 0 ≤ m) (hj : j ≤ 12) : FwI f cf xs (j + 1) N mn nx := by
 subst hk
 refine ⟨h.len, h.ok.up ?_, h.cr⟩
 rw [mostS_succ hx]
 have : ((j + 2 : Nat) : Int) * m ≤ 15 * m := Int.mul_le_mul_of_nonneg_right (by omega) hm0
 have e : 15 * (mostS (xs.take j) + mostN x + ((j + 1 : Nat) : Int)) = 15 * (mostS (xs.take j) + (j : Int)) + 15 * m := by rw [hm]; omega
 omega
end Go.Proofs.YtpmmgljndceplaaGreat

namespace Go.Proofs.YtpmmgljndceplaaGreat
open Go Go.RowKit

theorem Rdy.sm {f : Fmt} {cf : Int} {xs : List Nt} (h : Rdy f cf xs) : chkC f cf xs = 0 → xs.length ≤ 12 ∧ mostS xs ≤ 20 := fun _ => ⟨h.n, h.m⟩
section rules
variable {F : Fence} {P : Program} {n : Nat} {D : List Deferred} {l : Env} {w0 : World} {L : List Ent}
end rules
end Go.Proofs.YtpmmgljndceplaaGreat

namespace Go.Proofs.YtpmmgljndceplaaGreat
open Go Go.RowKit

section
variable {f : Fmt} {cf : Int} {xs : List Nt}
end
end Go.Proofs.YtpmmgljndceplaaGreat

namespace Go.Proofs.YtpmmgljndceplaaGreat
open Go Go.RowKit

structure BtOk (f : Fmt) (cf : Int) (xs : List Nt) (q : BDR) : Prop where
 no : posE f cf xs ≠ 0 → q.zs = []
 yes : posE f cf xs = 0 → q.zs.map (·.b) = boardsC (keyC (crowdC f cf xs))
 sm : ∀ x ∈ q.zs, BrdSm x.b
 len : q.zs.length ≤ 4194304
theorem St.nilOwn {w0 w : World} {L : List Ent} (h : St w0 w L) (T : TypeId) (size : Nat) : St w0 w (.own none 0 T size 0 [] :: L) := by
 refine St.add (M := [_]) h (Blw.refl _ _) (fun e he => ?_) (fun e he b hb' => ?_) (List.pairwise_singleton _ _)
 ·
  simp only [List.mem_singleton] at he; subst he; exact ⟨World.ownsRow_nil w 0 T size, Rd.nil w none size⟩
 ·
  simp only [List.mem_singleton] at he; subst he; obtain ⟨ad, had, _⟩ := hb'; cases had
theorem C_card_BoardsT (f : Fmt) (cf : Int) (xs : List Nt) (A : Option Addr) (n c : Nat) (w : World) (h : Rd w A 4 n (encN xs)) (hn : n ≤ 9223372036854775807) (hsm : chkC f cf xs = 0 → mostS xs ≤ 400) (hbig : (crowdC f cf xs).length ≤ 4194304) :
  CR Tryz.prog 16 [.agg (cardC f cf A n c).toArray] w (BtOk f cf xs) (fun q => .tuple #[.slice q.A q.zs.length q.c, .int .i64 (posE f cf xs)]) (fun q => [.own q.A q.c 40 5 q.zs.length (encX q.zs), manyE true (q.zs.map rowX)]) := by
 refine ⟨Calls.mono (C_card_Boards f cf xs A n c w h hn hsm hbig).out fun e w' ⟨o, ho, he, hs⟩ => ?_⟩
 cases o with
 | none => exact ⟨⟨[], none, 0⟩, ⟨fun _ => rfl, fun h0 => absurd h0 ho, fun x hx => (by cases hx), Nat.zero_le _⟩, he, (St.many0 hs).nilOwn _ _⟩
 | some q => exact ⟨q, ⟨fun h0 => absurd ho.1 h0, fun _ => ho.2.1, ho.2.2.1, ho.2.2.2⟩, he, hs⟩
end Go.Proofs.YtpmmgljndceplaaGreat

namespace Go.Proofs.YtpmmgljndceplaaGreat
open Go Go.RowKit

set_option maxRecDepth 100000 in
set_option maxHeartbeats 2000000 in
theorem C_top_stocked (w : World) : C0 Tryz.prog 7 [] w (.bool true) := by
 refine ⟨en Tryz.func7 Tryz.ntmps7 (St.init w) (h := fun F => ?_)⟩
 refine sr ?_
 refine ww ?_
 refine nr ?_
 refine cl (hc := fun w hS => C_law9_Example w) (h := fun x hx => ?_)
 refine al (h := fun b0 => ?_)
 first | refine stA (h := ?_) | refine stEA (h := ?_)
 refine nr ?_
 refine ww ?_
 refine cl0 (hc := fun w hS => C_balls_Left (exD x.A 1) x.a 0 2 w (ex_dpr hS hx (by repeat (first | exact Rds.own | apply Rds.there)) (by repeat (first | exact Rds.own | apply Rds.there)) (by repeat (first | exact Rds.own | apply Rds.there)) (by repeat (first | exact Rds.own | apply Rds.there)))) (h := ?_)
 rw [ex_left]
 iterate 3 refine ww ?_
 refine al (h := fun b1 => ?_)
 first | refine stA (h := ?_) | refine stEA (h := ?_)
 refine ww ?_
 refine nr ?_
 refine cl (hc := fun w hS => C_law3_Example w) (h := fun y0 _ => ?_)
 refine cl (hc := fun w hS => C_card_BoardsT exF 0 exX (some ⟨y0, 0, none⟩) 5 5 w (hS.get rdz_) (by omega) (fun _ => by rw [ex_most]; decide) (by rw [ex_len]; decide)) (h := fun qa hqa => ?_)
 rw [ex_pos]
 have hl1 : qa.zs.length = 1 := by
  have h9 := hqa.yes ex_pos
  rw [ex_boards] at h9
  have := congrArg List.length h9
  rwa [List.length_map] at this
 rw [hl1]
 iterate 5 refine ww ?_
 refine nr ?_
 refine cl (hc := fun w hS => C_law1_Example w) (h := fun x0 _ => ?_)
 iterate 3 refine ww ?_
 refine al (h := fun b2 => ?_)
 first | refine stA (h := ?_) | refine stEA (h := ?_)
 refine ww ?_
 refine nr ?_
 iterate 2 refine ww ?_
 refine cl (hc := fun w hS => C_score_Play exF 0 exP x0.1 20 x0.2 w (hS.get rdz_) (by omega)) (h := fun x1 _ => ?_)
 rw [ex_play, ex_playE]
 dsimp only [Sc.val]
 iterate 3 refine ww ?_
 refine al (h := fun b3 => ?_)
 first | refine stA (h := ?_) | refine stEA (h := ?_)
 refine ww ?_
 refine nr ?_
 iterate 3 refine ww ?_
 apply brAnd 3 33 36 (by exact rfl)
 ·
  intro hb0
  iterate 2 refine uw ?_
  refine ww ?_
  exact mg (by repeat (first | exact trivial | refine ⟨rfl, ?_⟩ | refine ⟨by rw [hb0]; rfl, ?_⟩)) slz_
 ·
  intro hb0
  repeat (first | refine uz ?_ | refine kz ?_ | refine wz ?_)
  exact mg (by repeat (first | exact trivial | refine ⟨rfl, ?_⟩ | refine ⟨by rw [hb0]; rfl, ?_⟩)) slz_
 refine ww ?_
 apply brAnd 3 37 40 (by exact rfl)
 ·
  intro hb1
  iterate 2 refine uw ?_
  refine ww ?_
  exact mg (by repeat (first | exact trivial | refine ⟨rfl, ?_⟩ | refine ⟨by rw [hb1]; rfl, ?_⟩)) slz_
 ·
  intro hb1
  repeat (first | refine uz ?_ | refine kz ?_ | refine wz ?_)
  exact mg (by repeat (first | exact trivial | refine ⟨rfl, ?_⟩ | refine ⟨by rw [hb1]; rfl, ?_⟩)) slz_
 refine ww ?_
 apply brAnd 4 41 45 (by exact rfl)
 ·
  intro hb2
  iterate 2 refine uw ?_
  refine uz ?_
  refine wy eqlT ?_
  refine ww ?_
  exact mg (by repeat (first | exact trivial | refine ⟨rfl, ?_⟩ | refine ⟨by rw [hb2]; rfl, ?_⟩)) slz_
 ·
  intro hb2
  repeat (first | refine uz ?_ | refine kz ?_ | refine wz ?_)
  exact mg (by repeat (first | exact trivial | refine ⟨rfl, ?_⟩ | refine ⟨by rw [hb2]; rfl, ?_⟩)) slz_
 refine ww ?_
 apply brAnd 4 46 50 (by exact rfl)
 ·
  intro hb3
  iterate 3 refine uw ?_
  refine ww ?_
  exact mg (by repeat (first | exact trivial | refine ⟨rfl, ?_⟩ | refine ⟨by rw [hb3]; rfl, ?_⟩)) slz_
 ·
  intro hb3
  repeat (first | refine uz ?_ | refine kz ?_ | refine wz ?_)
  exact mg (by repeat (first | exact trivial | refine ⟨rfl, ?_⟩ | refine ⟨by rw [hb3]; rfl, ?_⟩)) slz_
 refine ww ?_
 apply brAnd 4 51 55 (by exact rfl)
 ·
  intro hb4
  iterate 3 refine uw ?_
  refine ww ?_
  exact mg (by repeat (first | exact trivial | refine ⟨rfl, ?_⟩ | refine ⟨by rw [hb4]; rfl, ?_⟩)) slz_
 ·
  intro hb4
  repeat (first | refine uz ?_ | refine kz ?_ | refine wz ?_)
  exact mg (by repeat (first | exact trivial | refine ⟨rfl, ?_⟩ | refine ⟨by rw [hb4]; rfl, ?_⟩)) slz_
 refine ww ?_
 refine nq ?_
 refine rtn ?_
 refine q_ret (hR := ?_)
 exact fun w hS => ⟨rfl, hS.sub slz_⟩
end Go.Proofs.YtpmmgljndceplaaGreat

namespace Go.Proofs.YtpmmgljndceplaaGreat
open Go Go.RowKit

theorem rep3 : List.replicate 3 [Value.int .i64 0] = e3 fun _ => 0 := rfl
theorem play_ends {x : Fx} {p : PtX} (h0 : playE x.f p.first p.xs = 0) (h1 : ¬ (runO (playO x.f p.first p.xs)).winner < 0) (h2 : begB x.b = false) : GoodP x p := by
 refine ⟨h2, ?_⟩
 cases e : playO x.f p.first p.xs with
 | none => exact absurd h0 (playE_none e)
 | some m =>
  refine ⟨m, rfl, ?_⟩
  rw [e, (runO_sc (some m)).2.2.2.2.2.2.1] at h1
  have h2 : ¬ m.winner < 0 := h1
  omega
set_option maxRecDepth 100000 in
set_option maxHeartbeats 4000000 in
theorem K_TopCans (d : Dp) (a : DA) (l : List PtX) (A : Option Addr) (c : Nat) (day : Int) (w : World) (h : DpR w d a) (hl : Rd w A 2 l.length (l.map PtX.enc)) (hp0 : ∀ p ∈ l, p.ok w) (hln : l.length ≤ 9223372036854775807) : C0 Tryz.prog 3 [d.val a, .slice A l.length c, .int .i64 day] w (.bool true) := by
 have hfc := h.fc
 have hccc := h.cc
 have hsc := h.sc
 have hrows : ∀ r ∈ l.map (fun p : PtX => (⟨p.A, 1, p.xs.length, encI p.xs⟩ : Row)), Rd w r.A r.size r.n r.es := fun r hr => by
  obtain ⟨p, hp, rfl⟩ := List.mem_map.1 hr
  exact (hp0 p hp).r
 refine ⟨en Tryz.func3 Tryz.ntmps3 (((((St.init w).share (e := .ro a.sA 1 d.st.length (encI d.st)) h.s rfl rfl rfl).share (e := .ro a.fA 16 d.fx.length (d.fx.map Fx.enc)) h.f rfl rfl rfl).share (e := .ro a.cA 3 d.cr.length (d.cr.map Cx.enc)) h.c rfl rfl rfl).share (e := .ro A 2 l.length (l.map PtX.enc)) hl rfl rfl rfl) (h := fun F => ?_)⟩
 refine sr ?_
 refine bxA (h := fun b0 => ?_)
 refine ww ?_
 refine nq ?_
 iterate 2 refine sq ?_
 refine WC.manyOld hrows ?_
 refine rg ?_
 refine ww ?_
 refine cl0 (hc := fun w hS => C_law9_Far d a w (h.old hS)) (h := ?_)
 refine ww ?_
 apply brOr 4 27 31 (by exact rfl)
 ·
  intro hb0
  have hfr : farD d = false := by simpa using hb0
  have hsm := far_smd hfr
  refine uw ?_
  refine uz ?_
  refine cl0 (hc := fun w hS => C_ref9_Check d a w (h.old hS) hsm.2) (h := ?_)
  refine uw ?_
  refine ww ?_
  exact mg (by repeat (first | exact trivial | refine ⟨rfl, ?_⟩ | refine ⟨by rw [hb0]; rfl, ?_⟩)) slz_
 ·
  intro hb0
  repeat (first | refine uz ?_ | refine kz ?_ | refine wz ?_)
  exact mg (by repeat (first | exact trivial | refine ⟨rfl, ?_⟩ | refine ⟨by rw [hb0]; rfl, ?_⟩)) slz_
 refine ww ?_
 apply brOr 7 32 39 (by exact rfl)
 ·
  intro hb1
  iterate 6 refine uw ?_
  refine ww ?_
  exact mg (by repeat (first | exact trivial | refine ⟨rfl, ?_⟩ | refine ⟨by rw [hb1]; rfl, ?_⟩)) slz_
 ·
  intro hb1
  repeat (first | refine uz ?_ | refine kz ?_ | refine wz ?_)
  exact mg (by repeat (first | exact trivial | refine ⟨rfl, ?_⟩ | refine ⟨by rw [hb1]; rfl, ?_⟩)) slz_
 refine ww ?_
 apply brOr 3 40 43 (by exact rfl)
 ·
  intro hb2
  iterate 2 refine uw ?_
  refine ww ?_
  exact mg (by repeat (first | exact trivial | refine ⟨rfl, ?_⟩ | refine ⟨by rw [hb2]; rfl, ?_⟩)) slz_
 ·
  intro hb2
  repeat (first | refine uz ?_ | refine kz ?_ | refine wz ?_)
  exact mg (by repeat (first | exact trivial | refine ⟨rfl, ?_⟩ | refine ⟨by rw [hb2]; rfl, ?_⟩)) slz_
 refine ww ?_
 apply brOr 3 44 47 (by exact rfl)
 ·
  intro hb3
  iterate 2 refine uw ?_
  refine ww ?_
  exact mg (by repeat (first | exact trivial | refine ⟨rfl, ?_⟩ | refine ⟨by rw [hb3]; rfl, ?_⟩)) slz_
 ·
  intro hb3
  repeat (first | refine uz ?_ | refine kz ?_ | refine wz ?_)
  exact mg (by repeat (first | exact trivial | refine ⟨rfl, ?_⟩ | refine ⟨by rw [hb3]; rfl, ?_⟩)) slz_
 refine nq ?_
 refine czz (fun h4 => ?_) fun h4 => ?_
 ·
  refine sr ?_
  refine cl0 (hc := fun w hS => C_top_stocked w) (h := ?_)
  refine ww ?_
  refine nq ?_
  refine rtn ?_
  refine q_then_ret ?_
  refine q_ret (hR := ?_)
  exact fun w hS => ⟨rfl, hS.sub slz_⟩
 ·
  have h00 := h4
  simp only [Bool.or_eq_false_iff, decide_eq_false_iff_not, Bool.not_eq_false', decide_eq_true_eq] at h00
  obtain ⟨⟨⟨⟨hfr, hd⟩, hlf⟩, hd1⟩, hd2⟩ := h00
  obtain ⟨dz, rfl⟩ : ∃ dz : Nat, day = (dz : Int) := ⟨day.toNat, by omega⟩
  have hdn : dz ≤ 60 := by omega
  have hG := dep_good (dep_ok hd)
  have hsm := far_smd hfr
  have hsl := hG.sl
  have hfl := hG.fl
  have hcl := hG.cl
  have hlf' : l.length = d.fx.length := by omega
  refine skp ?_
  refine q_seq ?_
  refine sr ?_
  refine mks 3 (h := fun bu => ?_)
  rw [rep3]
  refine ww ?_
  refine nr ?_
  refine mks 3 (h := fun bv => ?_)
  rw [rep3]
  refine ww ?_
  refine nq ?_
  refine sq ?_
  refine sr ?_
  refine ww ?_
  refine nq ?_
  refine bk ?_
  refine lp (X := Nat) (I := fun i => i ≤ l.length ∧ Played d l i) (le := fun i => [(1, .slice A l.length c), (2, .int .i64 dz), (3, .pointer (some ⟨b0, 0, none⟩)), (7, .slice (some ⟨bu, 0, none⟩) 3 3), (8, .slice (some ⟨bv, 0, none⟩) 3 3), (9, .int .i64 i)]) (Le := fun i => [.own (some ⟨bu, 0, none⟩) 3 3 1 3 (e3 (useT d l dz i)), .own (some ⟨bv, 0, none⟩) 3 3 1 3 (e3 (befT d l dz i)), .blk b0 28 (d.cells a), .ro a.sA 1 d.st.length (encI d.st), .ro a.fA 16 d.fx.length (d.fx.map Fx.enc), .ro a.cA 3 d.cr.length (d.cr.map Cx.enc), .ro A 2 l.length (l.map PtX.enc), manyE false (l.map fun p : PtX => ⟨p.A, 1, p.xs.length, encI p.xs⟩)]) (μ := fun i => l.length - i) 0 ⟨Nat.zero_le _, played_zero d l⟩ sbz_ slz_ (fun i hi => ?_)
  obtain ⟨hil, hPl⟩ := hi
  refine sq ?_
  refine sr ?_
  iterate 4 refine ww ?_
  refine nq ?_
  refine czz (fun h5 => ?_) fun h5 => ?_
  ·
   have hin : i < l.length := by have := of_decide_eq_true h5; omega
   obtain ⟨x, hx⟩ : ∃ x, d.fx[i]? = some x := ⟨_, List.getElem?_eq_getElem (by omega)⟩
   obtain ⟨p, hp⟩ : ∃ p, l[i]? = some p := ⟨_, List.getElem?_eq_getElem hin⟩
   have hpn := (hp0 p (List.mem_of_getElem? hp)).n
   have hxc := (hG.fx x (List.mem_of_getElem? hx)).2
   obtain ⟨R, hR⟩ : ∃ R : RS, R = runO (playO x.f p.first p.xs) := ⟨_, rfl⟩
   obtain ⟨S, hS0⟩ : ∃ S : Sc, S = scO (playO x.f p.first p.xs) := ⟨_, rfl⟩
   refine skp ?_
   refine q_seq ?_
   refine sq ?_
   refine bk ?_
   refine sr ?_
   iterate 3 refine ww ?_
   refine wy (ix (A := a.fA) (m := d.fx.length)) ?_
   refine wy (ldEW (A := a.fA) (k := i) (cs := x.enc) (hk := map_at hx)) ?_
   refine al (h := fun b1 => ?_)
   first | refine stA (h := ?_) | refine stEA (h := ?_)
   refine nq ?_
   refine sq ?_
   refine ct (X := Nat × RA) (fun _ => True) (fun z => [(1, .slice A l.length c), (2, .int .i64 dz), (3, .pointer (some ⟨b0, 0, none⟩)), (7, .slice (some ⟨bu, 0, none⟩) 3 3), (8, .slice (some ⟨bv, 0, none⟩) 3 3), (9, .int .i64 i), (10, .pointer (some ⟨b1, 0, none⟩)), (11, .pointer (some ⟨z.1, 0, none⟩)), (12, .int .i64 (playE x.f p.first p.xs))]) (fun z => [.blk z.1 47 (R.cells z.2.sA z.2.sc z.2.gA z.2.gc), .blk b1 42 x.enc, .ro p.A 1 p.xs.length (encI p.xs), .own (some ⟨bu, 0, none⟩) 3 3 1 3 (e3 (useT d l dz i)), .own (some ⟨bv, 0, none⟩) 3 3 1 3 (e3 (befT d l dz i)), .blk b0 28 (d.cells a), .ro a.sA 1 d.st.length (encI d.st), .ro a.fA 16 d.fx.length (d.fx.map Fx.enc), .ro a.cA 3 d.cr.length (d.cr.map Cx.enc), .ro A 2 l.length (l.map PtX.enc), manyE false (l.map fun p : PtX => ⟨p.A, 1, p.xs.length, encI p.xs⟩)]) (h1 := ?_) (h2 := ?_)
   ·
    refine WC.getRowF (r := ⟨p.A, 1, p.xs.length, encI p.xs⟩) (List.mem_map.2 ⟨p, List.mem_of_getElem? hp, rfl⟩) atz_ ?_
    refine rgD0 (by kernel_rfl) (h := ?_)
    refine tw 0 ?_
    refine tw 1 ?_
    refine tw 2 ?_
    refine tw 3 ?_
    refine tk 4 (hy := ix (A := A) (m := l.length)) (h := ?_)
    refine tk 5 (hy := faE (A := A)) (h := ?_)
    refine tk 6 (hy := ldE (A := A) (hk := map_at hp)) (h := ?_)
    refine tw 7 ?_
    refine tw 8 ?_
    refine tk 9 (hy := ix (A := A) (m := l.length)) (h := ?_)
    refine tk 10 (hy := faE (A := A)) (h := ?_)
    refine tk 11 (hy := ldE (A := A) (hk := map_at hp)) (h := ?_)
    refine two 12 16 (h1 := ?_) (h2 := ?_)
    ·
     refine cl (hc := fun w hS => C_ref1_Run x.f p.first p.xs p.A p.xs.length p.c w (hS.get rdz_) hpn) (h := fun y0 _ => ?_)
     rw [← hR]
     refine nx (h := ?_)
     refine tw 13 ?_
     refine tw 14 ?_
     refine tw 15 ?_
     refine one 16 (h := ?_)
     refine al (h := fun bq => ?_)
     refine nx (h := ?_)
     refine one 17 (h := ?_)
     first | refine stA (h := ?_) | refine stEA (h := ?_)
     refine nx (h := ?_)
     refine tw 18 ?_
     refine dn (h := ?_)
     exact ctn (bq, y0) trivial sbz_ slz_
    ·
     refine al (h := fun bq => ?_)
     refine nx (h := ?_)
     refine one 12 (h := ?_)
     refine cl (hc := fun w hS => C_ref1_Run x.f p.first p.xs p.A p.xs.length p.c w (hS.get rdz_) hpn) (h := fun y0 _ => ?_)
     rw [← hR]
     refine nx (h := ?_)
     refine tw 13 ?_
     refine tw 14 ?_
     refine tw 15 ?_
     refine one 17 (h := ?_)
     first | refine stA (h := ?_) | refine stEA (h := ?_)
     refine nx (h := ?_)
     refine tw 18 ?_
     refine dn (h := ?_)
     exact ctn (bq, y0) trivial sbz_ slz_
   rintro ⟨bq, y0⟩ -
   refine sr ?_
   iterate 3 refine ww ?_
   apply brOr 5 80 85 (by exact rfl)
   ·
    intro hb6
    iterate 4 refine uw ?_
    refine ww ?_
    exact mg (by repeat (first | exact trivial | refine ⟨rfl, ?_⟩ | refine ⟨by rw [hb6]; rfl, ?_⟩)) slz_
   ·
    intro hb6
    repeat (first | refine uz ?_ | refine kz ?_ | refine wz ?_)
    exact mg (by repeat (first | exact trivial | refine ⟨rfl, ?_⟩ | refine ⟨by rw [hb6]; rfl, ?_⟩)) slz_
   refine ww ?_
   apply brOr 4 86 90 (by exact rfl)
   ·
    intro hb7
    iterate 2 refine uw ?_
    refine uz ?_
    refine cl0 (hc := fun w hS => C_ref9_Begun x.b x.A x.b.st.length x.c w) (h := ?_)
    refine ww ?_
    exact mg (by repeat (first | exact trivial | refine ⟨rfl, ?_⟩ | refine ⟨by rw [hb7]; rfl, ?_⟩)) slz_
   ·
    intro hb7
    repeat (first | refine uz ?_ | refine kz ?_ | refine wz ?_)
    exact mg (by repeat (first | exact trivial | refine ⟨rfl, ?_⟩ | refine ⟨by rw [hb7]; rfl, ?_⟩)) slz_
   refine nq ?_
   refine czz (fun h8 => ?_) fun h8 => ?_
   ·
    refine sr ?_
    refine cl0 (hc := fun w hS => C_top_stocked w) (h := ?_)
    refine ww ?_
    refine nq ?_
    refine rtn ?_
    refine q_then_ret ?_
    refine q_blk_ret ?_
    iterate 2 refine q_then_ret ?_
    refine q_blk_ret ?_
    refine q_then_ret ?_
    refine q_ret (hR := ?_)
    exact fun w hS => ⟨rfl, hS.sub slz_⟩
   ·
    have h00 := h8
    simp only [Bool.or_eq_false_iff, decide_eq_false_iff_not, Bool.not_eq_false', decide_eq_true_eq] at h00
    have hE0 : playE x.f p.first p.xs = 0 := h00.1.1
    have hgo : GoodP x p := play_ends hE0 (by rw [← hR]; exact h00.1.2) (by unfold begB; simp only [Bool.or_eq_false_iff, decide_eq_false_iff_not, Bool.not_eq_false']; exact h00.2)
    obtain ⟨ho1, hgb, hgl⟩ := good_play hxc hgo
    have hcs := csb_rest hxc
    have hr0 := ownN_rng hG hxc hgo (k := 0) (by omega)
    have hr1 := ownN_rng hG hxc hgo (k := 1) (by omega)
    have hr2 := ownN_rng hG hxc hgo (k := 2) (by omega)
    have he0 : ownN d x p 0 = d.each * (S.balls + 1) := by rw [hS0]; rfl
    have he1 : ownN d x p 1 = d.tow * playersV x.f * (S.st.length : Int) := by rw [hS0]; rfl
    have he2 : ownN d x p 2 = d.fra * playersV x.f := rfl
    rw [he0] at hr0
    rw [he1] at hr1
    rw [he2] at hr2
    have hpl := players_rng x.f
    have htp := mul_rng (a := d.tow) (b := playersV x.f) (A := 20) (B := 4) hG.k2 (by omega)
    rw [← hS0] at hgb hgl
    unfold CsB at hcs
    refine skp ?_
    refine q_seq ?_
    refine ct (X := Nat × (Option Addr × Nat)) (fun _ => True) (fun z => [(1, .slice A l.length c), (2, .int .i64 dz), (3, .pointer (some ⟨b0, 0, none⟩)), (7, .slice (some ⟨bu, 0, none⟩) 3 3), (8, .slice (some ⟨bv, 0, none⟩) 3 3), (9, .int .i64 i), (10, .pointer (some ⟨b1, 0, none⟩)), (13, .pointer (some ⟨z.1, 0, none⟩)), (14, .int .i64 (playE x.f p.first p.xs))]) (fun z => [.blk z.1 44 (S.cells z.2.1 z.2.2), .blk b1 42 x.enc, .own (some ⟨bu, 0, none⟩) 3 3 1 3 (e3 (useT d l dz i)), .own (some ⟨bv, 0, none⟩) 3 3 1 3 (e3 (befT d l dz i)), .blk b0 28 (d.cells a), .ro a.sA 1 d.st.length (encI d.st), .ro a.fA 16 d.fx.length (d.fx.map Fx.enc), .ro a.cA 3 d.cr.length (d.cr.map Cx.enc), .ro A 2 l.length (l.map PtX.enc), manyE false (l.map fun p : PtX => ⟨p.A, 1, p.xs.length, encI p.xs⟩)]) (h1 := ?_) (h2 := ?_)
    ·
     refine rgD0 (by kernel_rfl) (h := ?_)
     refine tw 0 ?_
     refine tw 1 ?_
     refine tw 2 ?_
     refine tw 3 ?_
     refine tk 4 (hy := ix (A := A) (m := l.length)) (h := ?_)
     refine tk 5 (hy := faE (A := A)) (h := ?_)
     refine tk 6 (hy := ldE (A := A) (hk := map_at hp)) (h := ?_)
     refine tw 7 ?_
     refine tw 8 ?_
     refine tk 9 (hy := ix (A := A) (m := l.length)) (h := ?_)
     refine tk 10 (hy := faE (A := A)) (h := ?_)
     refine tk 11 (hy := ldE (A := A) (hk := map_at hp)) (h := ?_)
     refine two 12 16 (h1 := ?_) (h2 := ?_)
     ·
      refine cl (hc := fun w hS => C_score_Play x.f p.first p.xs p.A p.xs.length p.c w (hS.get rdz_) hpn) (h := fun y1 _ => ?_)
      rw [← hS0]
      refine nx (h := ?_)
      refine tw 13 ?_
      refine tw 14 ?_
      refine tw 15 ?_
      refine one 16 (h := ?_)
      refine al (h := fun bS => ?_)
      refine nx (h := ?_)
      refine one 17 (h := ?_)
      first | refine stA (h := ?_) | refine stEA (h := ?_)
      refine nx (h := ?_)
      refine tw 18 ?_
      refine dn (h := ?_)
      exact ctn (bS, y1) trivial sbz_ slz_
     ·
      refine al (h := fun bS => ?_)
      refine nx (h := ?_)
      refine one 12 (h := ?_)
      refine cl (hc := fun w hS => C_score_Play x.f p.first p.xs p.A p.xs.length p.c w (hS.get rdz_) hpn) (h := fun y1 _ => ?_)
      rw [← hS0]
      refine nx (h := ?_)
      refine tw 13 ?_
      refine tw 14 ?_
      refine tw 15 ?_
      refine one 17 (h := ?_)
      first | refine stA (h := ?_) | refine stEA (h := ?_)
      refine nx (h := ?_)
      refine tw 18 ?_
      refine dn (h := ?_)
      exact ctn (bS, y1) trivial sbz_ slz_
    rintro ⟨bS, y1⟩ -
    refine sq ?_
    refine sr ?_
    refine ww ?_
    refine wy ((Yd.fl (neq) (by rw [hE0]; rfl))) ?_
    refine nq ?_
    refine cdF (h := ?_)
    refine skp ?_
    refine q_seq ?_
    refine sr ?_
    refine ww ?_
    refine nq ?_
    refine ct (X := Unit) (fun _ => True) (fun _ => [(1, .slice A l.length c), (2, .int .i64 dz), (3, .pointer (some ⟨b0, 0, none⟩)), (7, .slice (some ⟨bu, 0, none⟩) 3 3), (8, .slice (some ⟨bv, 0, none⟩) 3 3), (9, .int .i64 i), (10, .pointer (some ⟨b1, 0, none⟩)), (13, .pointer (some ⟨bS, 0, none⟩)), (15, .int .i64 (playersV x.f))]) (fun _ => [.blk bS 44 (S.cells y1.1 y1.2), .blk b1 42 x.enc, .own (some ⟨bu, 0, none⟩) 3 3 1 3 (e3 (useT d l dz i)), .own (some ⟨bv, 0, none⟩) 3 3 1 3 (e3 (befT d l dz i)), .blk b0 28 (d.cells a), .ro a.sA 1 d.st.length (encI d.st), .ro a.fA 16 d.fx.length (d.fx.map Fx.enc), .ro a.cA 3 d.cr.length (d.cr.map Cx.enc), .ro A 2 l.length (l.map PtX.enc), manyE false (l.map fun p : PtX => ⟨p.A, 1, p.xs.length, encI p.xs⟩)]) (h1 := ?_) (h2 := ?_)
    ·
     refine sr ?_
     iterate 3 refine ww ?_
     refine nq ?_
     refine czz (fun h10 => ?_) fun h10 => ?_
     ·
      have hpv : playersV x.f = 4 := by rw [playersV, h10]; rfl
      refine rg ?_
      refine ww ?_
      refine nl ?_
      rw [hpv]
      exact ctn () trivial sbz_ slz_
     ·
      have hpv : playersV x.f = 2 := by rw [playersV, h10]; rfl
      refine skp ?_
      rw [hpv]
      exact ctn () trivial sbz_ slz_
    rintro ⟨⟩ -
    refine sr ?_
    iterate 22 refine ww ?_
    refine bs (h := fun bo => ?_)
    refine ww ?_
    refine nr ?_
    refine ww ?_
    refine nq ?_
    refine bk ?_
    refine lp (X := Nat) (I := fun kk => kk ≤ 3) (le := fun kk => [(1, .slice A l.length c), (2, .int .i64 dz), (3, .pointer (some ⟨b0, 0, none⟩)), (7, .slice (some ⟨bu, 0, none⟩) 3 3), (8, .slice (some ⟨bv, 0, none⟩) 3 3), (9, .int .i64 i), (10, .pointer (some ⟨b1, 0, none⟩)), (16, .slice (some ⟨bo, 0, none⟩) 3 3), (17, .int .i64 kk)]) (Le := fun kk => [.own (some ⟨bu, 0, none⟩) 3 3 1 3 (e3 (mx3 (useT d l dz i) (useT d l dz (i + 1)) kk)), .own (some ⟨bv, 0, none⟩) 3 3 1 3 (e3 (mx3 (befT d l dz i) (befT d l dz (i + 1)) kk)), .own (some ⟨bo, 0, none⟩) 3 3 1 3 (e3 (ownN d x p)), .blk b1 42 x.enc, .blk b0 28 (d.cells a), .ro a.sA 1 d.st.length (encI d.st), .ro a.fA 16 d.fx.length (d.fx.map Fx.enc), .ro a.cA 3 d.cr.length (d.cr.map Cx.enc), .ro A 2 l.length (l.map PtX.enc), manyE false (l.map fun p : PtX => ⟨p.A, 1, p.xs.length, encI p.xs⟩)]) (μ := fun kk => 3 - kk) 0 (Nat.zero_le _) sbz_ (by rw [mx3_zero, mx3_zero, show e3 (ownN d x p) = [[.int .i64 (d.each * (S.balls + 1))], [.int .i64 (d.tow * playersV x.f * (S.st.length : Int))], [.int .i64 (d.fra * playersV x.f)]] by unfold e3; rw [he0, he1, he2]]; repeat (first | exact SubL.nil | (apply SubL.cons; (repeat (first | exact At.here | apply At.there))) | exact SubL.refl _ | apply SubL.skip)) (fun kk hkk => ?_)
    refine sq ?_
    refine sr ?_
    iterate 2 refine ww ?_
    refine nq ?_
    refine czz (fun h11 => ?_) fun h11 => ?_
    ·
     have hkn : kk < 3 := by have := of_decide_eq_true h11; omega
     have hr := ownN_rng hG hxc hgo hkn
     have hur := use_rng hG hlf' hkn dz (by omega) hPl
     have hbr := bef_rng hG hlf' hkn dz i (by omega) hPl
     have hus := use_succ (day := dz) hx hp kk
     have hbs := bef_succ (day := dz) hx hp kk
     have hm1 := mx3_at (useT d l dz i) (useT d l dz (i + 1)) kk
     have hm2 := mx3_at (befT d l dz i) (befT d l dz (i + 1)) kk
     refine skp ?_
     refine q_seq ?_
     refine sq ?_
     refine bk ?_
     refine sq ?_
     refine sr ?_
     iterate 4 refine ww ?_
     refine nq ?_
     refine czz (fun h12 => ?_) fun h12 => ?_
     ·
      rw [h12, cond_true] at hus
      have hu9 : useT d l dz (i + 1) kk = mx3 (useT d l dz i) (useT d l dz (i + 1)) kk kk + ownN d x p kk := by rw [hm1, hus]
      refine rgD (by kernel_rfl) [(10, .own (some ⟨bu, 0, none⟩) 3 3 1 3 (e3 (mx3 (useT d l dz i) (useT d l dz (i + 1)) kk))), (1000000, .own (some ⟨bo, 0, none⟩) 3 3 1 3 (e3 (ownN d x p)))] (by repeat (first | exact HS.nil | (apply HS.keep; (repeat (first | exact At.here | apply At.there))) | (apply HS.ro; (repeat (first | exact Rds.ro | exact Rds.own | apply Rds.there))))) (h := ?_)
      refine tw 0 ?_
      refine tw 1 ?_
      refine tk 2 (hy := ix (A := some ⟨bu, 0, none⟩) (m := 3)) (h := ?_)
      refine tk 3 (hy := ldE (A := some ⟨bu, 0, none⟩) (hk := e3_at hkn)) (h := ?_)
      refine tw 4 ?_
      refine tw 5 ?_
      refine tk 6 (hy := ix (A := some ⟨bo, 0, none⟩) (m := 3)) (h := ?_)
      refine tk 7 (hy := ldE (A := some ⟨bo, 0, none⟩) (hk := e3_at hkn)) (h := ?_)
      refine tw 8 ?_
      refine tk 9 (hy := ix (A := some ⟨bu, 0, none⟩) (m := 3)) (h := ?_)
      refine one 10 (h := ?_)
      refine stE (A := some ⟨bu, 0, none⟩) (hk := e3_at hkn) (h := ?_)
      refine nx (h := ?_)
      refine dn (h := ?_)
      refine q_seq ?_
      refine sr ?_
      iterate 4 refine ww ?_
      refine nq ?_
      refine czz (fun h13 => ?_) fun h13 => ?_
      ·
       rw [h13, cond_true] at hbs
       have hb9 : befT d l dz (i + 1) kk = mx3 (befT d l dz i) (befT d l dz (i + 1)) kk kk + ownN d x p kk := by rw [hm2, hbs]
       refine rgD (by kernel_rfl) [(10, .own (some ⟨bv, 0, none⟩) 3 3 1 3 (e3 (mx3 (befT d l dz i) (befT d l dz (i + 1)) kk))), (1000000, .own (some ⟨bo, 0, none⟩) 3 3 1 3 (e3 (ownN d x p)))] (by repeat (first | exact HS.nil | (apply HS.keep; (repeat (first | exact At.here | apply At.there))) | (apply HS.ro; (repeat (first | exact Rds.ro | exact Rds.own | apply Rds.there))))) (h := ?_)
       refine tw 0 ?_
       refine tw 1 ?_
       refine tk 2 (hy := ix (A := some ⟨bv, 0, none⟩) (m := 3)) (h := ?_)
       refine tk 3 (hy := ldE (A := some ⟨bv, 0, none⟩) (hk := e3_at hkn)) (h := ?_)
       refine tw 4 ?_
       refine tw 5 ?_
       refine tk 6 (hy := ix (A := some ⟨bo, 0, none⟩) (m := 3)) (h := ?_)
       refine tk 7 (hy := ldE (A := some ⟨bo, 0, none⟩) (hk := e3_at hkn)) (h := ?_)
       refine tw 8 ?_
       refine tk 9 (hy := ix (A := some ⟨bv, 0, none⟩) (m := 3)) (h := ?_)
       refine one 10 (h := ?_)
       refine stE (A := some ⟨bv, 0, none⟩) (hk := e3_at hkn) (h := ?_)
       refine nx (h := ?_)
       refine dn (h := ?_)
       refine q_blk_norm ?_
       refine q_seq ?_
       refine rg ?_
       iterate 3 refine ww ?_
       refine nl ?_
       refine rn (x := kk) (kk + 1) hkn (by omega) sbz_ (by (first | rw [← mx3_hit hkn hu9] | rw [← hu9]); (first | rw [← mx3_hit hkn hb9] | rw [← hb9]); repeat (first | exact SubL.nil | (apply SubL.cons; (repeat (first | exact At.here | apply At.there))) | exact SubL.refl _ | apply SubL.skip))
      ·
       rw [h13, cond_false] at hbs
       have hb9 := mx3_miss (a := befT d l dz i) (b := befT d l dz (i + 1)) hbs
       refine skp ?_
       refine q_blk_norm ?_
       refine q_seq ?_
       refine rg ?_
       iterate 3 refine ww ?_
       refine nl ?_
       refine rn (x := kk) (kk + 1) hkn (by omega) sbz_ (by (first | rw [← mx3_hit hkn hu9] | rw [← hu9]); (first | rw [← mx3_hit hkn hb9] | rw [← hb9]); repeat (first | exact SubL.nil | (apply SubL.cons; (repeat (first | exact At.here | apply At.there))) | exact SubL.refl _ | apply SubL.skip))
     ·
      rw [h12, cond_false] at hus
      have hu9 := mx3_miss (a := useT d l dz i) (b := useT d l dz (i + 1)) hus
      refine skp ?_
      refine q_seq ?_
      refine sr ?_
      iterate 4 refine ww ?_
      refine nq ?_
      refine czz (fun h14 => ?_) fun h14 => ?_
      ·
       rw [h14, cond_true] at hbs
       have hb9 : befT d l dz (i + 1) kk = mx3 (befT d l dz i) (befT d l dz (i + 1)) kk kk + ownN d x p kk := by rw [hm2, hbs]
       refine rgD (by kernel_rfl) [(10, .own (some ⟨bv, 0, none⟩) 3 3 1 3 (e3 (mx3 (befT d l dz i) (befT d l dz (i + 1)) kk))), (1000000, .own (some ⟨bo, 0, none⟩) 3 3 1 3 (e3 (ownN d x p)))] (by repeat (first | exact HS.nil | (apply HS.keep; (repeat (first | exact At.here | apply At.there))) | (apply HS.ro; (repeat (first | exact Rds.ro | exact Rds.own | apply Rds.there))))) (h := ?_)
       refine tw 0 ?_
       refine tw 1 ?_
       refine tk 2 (hy := ix (A := some ⟨bv, 0, none⟩) (m := 3)) (h := ?_)
       refine tk 3 (hy := ldE (A := some ⟨bv, 0, none⟩) (hk := e3_at hkn)) (h := ?_)
       refine tw 4 ?_
       refine tw 5 ?_
       refine tk 6 (hy := ix (A := some ⟨bo, 0, none⟩) (m := 3)) (h := ?_)
       refine tk 7 (hy := ldE (A := some ⟨bo, 0, none⟩) (hk := e3_at hkn)) (h := ?_)
       refine tw 8 ?_
       refine tk 9 (hy := ix (A := some ⟨bv, 0, none⟩) (m := 3)) (h := ?_)
       refine one 10 (h := ?_)
       refine stE (A := some ⟨bv, 0, none⟩) (hk := e3_at hkn) (h := ?_)
       refine nx (h := ?_)
       refine dn (h := ?_)
       refine q_blk_norm ?_
       refine q_seq ?_
       refine rg ?_
       iterate 3 refine ww ?_
       refine nl ?_
       refine rn (x := kk) (kk + 1) hkn (by omega) sbz_ (by (first | rw [← mx3_hit hkn hu9] | rw [← hu9]); (first | rw [← mx3_hit hkn hb9] | rw [← hb9]); repeat (first | exact SubL.nil | (apply SubL.cons; (repeat (first | exact At.here | apply At.there))) | exact SubL.refl _ | apply SubL.skip))
      ·
       rw [h14, cond_false] at hbs
       have hb9 := mx3_miss (a := befT d l dz i) (b := befT d l dz (i + 1)) hbs
       refine skp ?_
       refine q_blk_norm ?_
       refine q_seq ?_
       refine rg ?_
       iterate 3 refine ww ?_
       refine nl ?_
       refine rn (x := kk) (kk + 1) hkn (by omega) sbz_ (by (first | rw [← mx3_hit hkn hu9] | rw [← hu9]); (first | rw [← mx3_hit hkn hb9] | rw [← hb9]); repeat (first | exact SubL.nil | (apply SubL.cons; (repeat (first | exact At.here | apply At.there))) | exact SubL.refl _ | apply SubL.skip))
    ·
     have hkn : kk = 3 := by have := of_decide_eq_false h11; omega
     subst hkn
     refine et ?_
     iterate 2 refine q_then_exit ?_
     refine q_blk_hit ?_
     refine q_blk_norm ?_
     refine q_seq ?_
     refine rg ?_
     iterate 3 refine ww ?_
     refine nl ?_
     refine rn (x := i) (i + 1) ⟨hin, played_succ hPl hx hp hgo⟩ (by omega) sbz_ (by rw [mx3_end, mx3_end]; repeat (first | exact SubL.nil | (apply SubL.cons; (repeat (first | exact At.here | apply At.there))) | exact SubL.refl _ | apply SubL.skip))
  ·
   have hin : i = d.fx.length := by have := of_decide_eq_false h5; omega
   subst hin
   refine et ?_
   iterate 2 refine q_then_exit ?_
   refine q_blk_hit ?_
   refine q_seq ?_
   refine sq ?_
   refine sr ?_
   refine ww ?_
   refine nq ?_
   refine bk ?_
   refine lp (X := Nat) (I := fun k => k ≤ 3) (le := fun k => [(2, .int .i64 dz), (3, .pointer (some ⟨b0, 0, none⟩)), (7, .slice (some ⟨bu, 0, none⟩) 3 3), (8, .slice (some ⟨bv, 0, none⟩) 3 3), (18, .int .i64 k)]) (Le := fun k => [.own (some ⟨bu, 0, none⟩) 3 3 1 3 (e3 (useT d l dz d.fx.length)), .own (some ⟨bv, 0, none⟩) 3 3 1 3 (e3 (befT d l dz d.fx.length)), .blk b0 28 (d.cells a), .ro a.sA 1 d.st.length (encI d.st), .ro a.fA 16 d.fx.length (d.fx.map Fx.enc), .ro a.cA 3 d.cr.length (d.cr.map Cx.enc)]) (μ := fun k => 3 - k) 0 (Nat.zero_le _) sbz_ slz_ (fun k hk => ?_)
   refine sq ?_
   refine sr ?_
   iterate 2 refine ww ?_
   refine nq ?_
   refine czz (fun h15 => ?_) fun h15 => ?_
   ·
    have hkn : k < 3 := by have := of_decide_eq_true h15; omega
    have hki : 0 ≤ (k : Int) ∧ (k : Int) ≤ 2 := by omega
    have hur := use_rng hG hlf' hkn dz (Nat.le_refl _) hPl
    have hbr := bef_rng hG hlf' hkn dz _ (Nat.le_refl _) hPl
    have hst : (encI d.st)[k]? = some [.int .i64 (d.st.getD k 0)] := st_at hG hki
    have hsr := st_rng hG k
    have hni := need_in hG hlf' hPl hkn dz
    have hli := left_in hG hlf' hPl hkn dz
    refine skp ?_
    refine q_seq ?_
    refine sq ?_
    refine bk ?_
    refine sr ?_
    iterate 3 refine ww ?_
    refine cl0 (hc := fun w hS => C_balls_Need d a (k : Int) dz w (h.old hS)) (h := ?_)
    rw [need_okN hd hki hdn]
    iterate 3 refine ww ?_
    refine al (h := fun bN => ?_)
    first | refine stA (h := ?_) | refine stEA (h := ?_)
    refine ww ?_
    refine nr ?_
    iterate 3 refine ww ?_
    refine cl0 (hc := fun w hS => C_balls_Left d a (k : Int) dz w (h.old hS)) (h := ?_)
    rw [left_okN hd hki hdn]
    iterate 3 refine ww ?_
    refine al (h := fun bL => ?_)
    first | refine stA (h := ?_) | refine stEA (h := ?_)
    refine ww ?_
    refine nq ?_
    refine sq ?_
    refine rgD0 (by kernel_rfl) (h := ?_)
    refine tw 0 ?_
    refine tw 1 ?_
    refine tw 2 ?_
    refine tk 3 (hy := ix (A := a.sA) (m := d.st.length)) (h := ?_)
    refine tk 4 (hy := ldE (A := a.sA) (hk := hst)) (h := ?_)
    refine tw 5 ?_
    refine tw 6 ?_
    refine tk 7 (hy := ix (A := some ⟨bv, 0, none⟩) (m := 3)) (h := ?_)
    refine tk 8 (hy := ldE (A := some ⟨bv, 0, none⟩) (hk := e3_at hkn)) (h := ?_)
    refine tw 9 ?_
    refine tw 10 ?_
    refine dn (h := ?_)
    refine q_seq ?_
    refine sq ?_
    refine sr ?_
    refine ww ?_
    refine nq ?_
    refine bk ?_
    refine lp (X := Nat) (I := fun j => j ≤ d.cr.length) (le := fun j => [(2, .int .i64 dz), (3, .pointer (some ⟨b0, 0, none⟩)), (7, .slice (some ⟨bu, 0, none⟩) 3 3), (8, .slice (some ⟨bv, 0, none⟩) 3 3), (18, .int .i64 k), (19, .pointer (some ⟨bN, 0, none⟩)), (20, .int .i64 0), (21, .pointer (some ⟨bL, 0, none⟩)), (22, .int .i64 0), (23, .int .i64 (d.st.getD k 0 - befT d l dz d.fx.length k + crU d (k : Int) dz j)), (24, .int .i64 j)]) (Le := fun j => [.blk bN 56 [.int .i64 (needD d (k : Int) dz).1, .int .i64 (needD d (k : Int) dz).2], .blk bL 56 [.int .i64 (lefD d (k : Int) (dz + 1)).1, .int .i64 (lefD d (k : Int) (dz + 1)).2], .own (some ⟨bu, 0, none⟩) 3 3 1 3 (e3 (useT d l dz d.fx.length)), .own (some ⟨bv, 0, none⟩) 3 3 1 3 (e3 (befT d l dz d.fx.length)), .blk b0 28 (d.cells a), .ro a.sA 1 d.st.length (encI d.st), .ro a.fA 16 d.fx.length (d.fx.map Fx.enc), .ro a.cA 3 d.cr.length (d.cr.map Cx.enc)]) (μ := fun j => d.cr.length - j) 0 (Nat.zero_le _) (by rw [show d.st.getD k 0 - befT d l dz d.fx.length k + crU d (k : Int) dz 0 = d.st.getD k 0 - befT d l dz d.fx.length k from Int.add_zero _]; repeat (first | exact trivial | refine ⟨rfl, ?_⟩)) slz_ (fun j hj => ?_)
    refine sq ?_
    refine sr ?_
    iterate 5 refine ww ?_
    refine nq ?_
    refine czz (fun h16 => ?_) fun h16 => ?_
    ·
     have hjn : j < d.cr.length := by have := of_decide_eq_true h16; omega
     obtain ⟨y, hc⟩ : ∃ y, d.cr[j]? = some y := ⟨_, List.getElem?_eq_getElem hjn⟩
     have hyr := (hG.cr y (List.mem_of_getElem? hc)).2.2
     have hcr := crU_rng hG (k : Int) dz j
     have hcs := crU_succ (day := dz) (item := (k : Int)) hc
     refine skp ?_
     refine q_seq ?_
     refine sq ?_
     refine bk ?_
     refine sr ?_
     iterate 3 refine ww ?_
     refine wy (ix (A := a.cA) (m := d.cr.length)) ?_
     refine ww ?_
     refine wy (ldE (A := a.cA) (hk := map_at hc)) ?_
     iterate 3 refine ww ?_
     apply brAnd 9 211 220 (by exact rfl)
     ·
      intro hb17
      iterate 3 refine uw ?_
      refine uz ?_
      refine wy (ix (A := a.cA) (m := d.cr.length)) ?_
      refine uw ?_
      refine uz ?_
      refine wy (ldE (A := a.cA) (hk := map_at hc)) ?_
      iterate 2 refine uw ?_
      refine ww ?_
      exact mg (by repeat (first | exact trivial | refine ⟨rfl, ?_⟩ | refine ⟨by rw [hb17]; rfl, ?_⟩)) slz_
     ·
      intro hb17
      repeat (first | refine uz ?_ | refine kz ?_ | refine wz ?_)
      exact mg (by repeat (first | exact trivial | refine ⟨rfl, ?_⟩ | refine ⟨by rw [hb17]; rfl, ?_⟩)) slz_
     refine nq ?_
     refine czz (fun h18 => ?_) fun h18 => ?_
     ·
      rw [h18, cond_true] at hcs
      have hs9 : d.st.getD k 0 - befT d l dz d.fx.length k + crU d (k : Int) dz (j + 1) = d.st.getD k 0 - befT d l dz d.fx.length k + crU d (k : Int) dz j + y.count := by omega
      refine rg ?_
      iterate 4 refine ww ?_
      refine wy (ix (A := a.cA) (m := d.cr.length)) ?_
      refine ww ?_
      refine wy (ldE (A := a.cA) (hk := map_at hc)) ?_
      iterate 2 refine ww ?_
      refine nl ?_
      refine q_blk_norm ?_
      refine q_seq ?_
      refine rg ?_
      iterate 3 refine ww ?_
      refine nl ?_
      refine rn (x := j) (j + 1) hjn (by omega) (by rw [hs9]; repeat (first | exact trivial | refine ⟨rfl, ?_⟩)) slz_
     ·
      rw [h18, cond_false] at hcs
      have hs9 : d.st.getD k 0 - befT d l dz d.fx.length k + crU d (k : Int) dz (j + 1) = d.st.getD k 0 - befT d l dz d.fx.length k + crU d (k : Int) dz j := by omega
      refine skp ?_
      refine q_blk_norm ?_
      refine q_seq ?_
      refine rg ?_
      iterate 3 refine ww ?_
      refine nl ?_
      refine rn (x := j) (j + 1) hjn (by omega) (by rw [hs9]; repeat (first | exact trivial | refine ⟨rfl, ?_⟩)) slz_
    ·
     have hjn : j = d.cr.length := by have := of_decide_eq_false h16; omega
     subst hjn
     refine et ?_
     iterate 2 refine q_then_exit ?_
     refine q_blk_hit ?_
     refine q_seq ?_
     refine sq ?_
     refine rgD0 (by kernel_rfl) (h := ?_)
     refine tw 0 ?_
     refine tk 1 (hy := (Yd.fl (neq) (by rfl))) (h := ?_)
     refine tw 2 ?_
     refine tw 3 ?_
     refine tk 4 (hy := (Yd.fl (neq) (by rfl))) (h := ?_)
     refine tw 5 ?_
     refine tw 6 ?_
     refine tw 7 ?_
     refine tw 8 ?_
     refine tk 9 (hy := ix (A := some ⟨bu, 0, none⟩) (m := 3)) (h := ?_)
     refine tk 10 (hy := ldE (A := some ⟨bu, 0, none⟩) (hk := e3_at hkn)) (h := ?_)
     refine tw 11 ?_
     refine tw 12 ?_
     refine tk 13 (hy := (Yd.fl (lss) (by refine decide_eq_false ?_; omega))) (h := ?_)
     refine tw 14 ?_
     refine tw 15 ?_
     refine tw 16 ?_
     refine tw 17 ?_
     refine tk 18 (hy := ix (A := some ⟨bu, 0, none⟩) (m := 3)) (h := ?_)
     refine tk 19 (hy := ldE (A := some ⟨bu, 0, none⟩) (hk := e3_at hkn)) (h := ?_)
     refine tw 20 ?_
     refine tw 21 ?_
     refine tk 22 (hy := (Yd.fl (gtr) (by refine decide_eq_false ?_; omega))) (h := ?_)
     refine tw 23 ?_
     refine tw 24 ?_
     refine tw 25 ?_
     refine tw 26 ?_
     refine tw 27 ?_
     refine tk 28 (hy := (Yd.fl (lss) (by refine decide_eq_false ?_; omega))) (h := ?_)
     refine tw 29 ?_
     refine tw 30 ?_
     refine tw 31 ?_
     refine tw 32 ?_
     refine tw 33 ?_
     refine tk 34 (hy := (Yd.fl (gtr) (by refine decide_eq_false ?_; omega))) (h := ?_)
     refine tw 35 ?_
     refine dn (h := ?_)
     refine q_seq ?_
     refine cdF (h := ?_)
     refine skp ?_
     refine q_blk_norm ?_
     refine q_seq ?_
     refine rg ?_
     iterate 3 refine ww ?_
     refine nl ?_
     refine rn (x := k) (k + 1) hkn (by omega) sbz_ slz_
   ·
    refine et ?_
    iterate 2 refine q_then_exit ?_
    refine q_blk_hit ?_
    refine q_seq ?_
    refine sr ?_
    refine cl0 (hc := fun w hS => C_top_stocked w) (h := ?_)
    refine ww ?_
    refine nq ?_
    refine rtn ?_
    refine q_ret (hR := ?_)
    exact fun w hS => ⟨rfl, hS.sub slz_⟩
end Go.Proofs.YtpmmgljndceplaaGreat
