/- The texts of the walk, part 3. -/
import Derived.Test.YtacaojifempclaaJ2
namespace Go.Proofs.Ytacaojifempclaa
open Go Go.RowKit

inductive Cut (d : Nat) : Env → Env → Prop
  | nil : Cut d [] []
  | hit {v : Value} {l l' : Env} (h : Cut d l l') : Cut d ((d, v) :: l) l'
  | miss {i : Nat} {v : Value} {l l' : Env} (hn : Nat.beq i d = false) (h : Cut d l l') : Cut d ((i, v) :: l) ((i, v) :: l')
theorem Cut.out {d : Nat} {l l' : Env} (h : Cut d l l') : ∀ k, k ≠ d → look l' k = look l k := by
  induction h with
  | nil => exact fun _ _ => rfl
  | hit _ ih => exact fun k hk => by rw [look_cons, if_neg (fun e => hk e.symm), ih k hk]
  | miss _ _ ih => exact fun k hk => by rw [look_cons, look_cons, ih k hk]
theorem Cut.fr {a : Act} {n : Nat} {D : List Deferred} {d : Nat} {v : Value} {l l' : Env} (h : Cut d l l') (hf : Fr a n D ((d, v) :: l)) : Fr a n D ((d, v) :: l') := by
  refine ⟨hf.size, fun k u hk => hf.slot k u ?_, hf.defers⟩
  rw [look_cons] at hk ⊢
  by_cases e : d = k
  · rw [if_pos e] at hk ⊢; exact hk
  · rw [if_neg e] at hk ⊢
    rw [← h.out k (fun x => e x.symm)]; exact hk
theorem WL.cut {F : Fence} {P : Program} {ops : Array Oper} {Q : Exit → Act → World → Prop} {rest : List Oper} {n : Nat} {D : List Deferred} {l l' : Env} {w0 : World} {L : List Ent} {d : Nat} {v : Value} (hc : Cut d l l') (h : WL F P ops Q rest n D ((d, v) :: l') w0 L) : WL F P ops Q rest n D ((d, v) :: l) w0 L :=
  fun hF a w hfr hst => h hF a w (hc.fr hfr) hst

theorem WC.cut {F : Fence} {P : Program} {c : Code} {Q : Exit → Act → World → Prop} {n : Nat} {D : List Deferred} {l l' : Env} {w0 : World} {L : List Ent} (d : Nat) {v : Value} (hv : look l d = some v) (hc : Cut d l l') (h : WC F P c Q n D ((d, v) :: l') w0 L) : WC F P c Q n D l w0 L :=
  fun hF a w hfr hst => h hF a w ⟨hfr.size, fun k u hk => by
    rw [look_cons] at hk
    by_cases e : d = k
    · subst e
      rw [if_pos rfl] at hk
      cases hk
      exact hfr.slot d v hv
    · rw [if_neg e, hc.out k (fun x => e x.symm)] at hk
      exact hfr.slot k u hk, hfr.defers⟩ hst
theorem clf0 {F : Fence} {P : Program} {ops : Array Oper} {Q : Exit → Act → World → Prop} {rest : List Oper} {n : Nat} {D : List Deferred} {l : Env} {w0 : World} {L : List Ent} {d : Nat} {ty : TypeId} {pos : String} {aft : Array Edge} {f : FuncId} (hf : FnOk P f := by infer_instance) {x : Operand} {fi cap : List Value} {xs : List Operand} {vs : List Value} {ts : Array TypeId} {v : Value}
    (hx : ev l x = some (.func (.func f) fi.toArray cap.toArray) := by exact rfl) (hargs : Evs l xs vs := by repeat (first | exact Evs.nil | (apply Evs.cons; exact rfl))) (hc : ∀ w, St w0 w L → C0 P f (fi ++ vs ++ cap) w v) (hd : Nat.blt d n = true := by rfl) (h : WL F P ops Q rest n D ((d, v) :: l) w0 L) :
    WL F P ops Q (⟨some d, .call { callee := .value x, args := xs.toArray, argTypes := ts }, ty, pos, aft, none⟩ :: rest) n D l w0 L :=
  WL.enter (by simp) hd fun a w hfr hst => ⟨run_callF hf hx hargs hfr w, Calls.mono (hc w hst).out fun e w' ⟨he, hs⟩ => ⟨v, he, L, by simpa using hst.join hs rfl, h⟩⟩

abbrev MR := Option Addr × Nat × List Int
def mI (l : List Int) : List (List Value) := l.map fun x => [.int .i64 x]
theorem mI_at {l : List Int} {k : Nat} (h : k < l.length) : (mI l)[k]? = some [.int .i64 (l.getD k 0)] := by
  rw [mI, List.getElem?_map, List.getElem?_eq_getElem h, List.getD_eq_getElem?_getD, List.getElem?_eq_getElem h]; rfl
theorem mI_set (l : List Int) (k : Nat) (v : Int) : (mI l).set k [.int .i64 v] = mI (l.set k v) := by simp [mI, List.map_set]
def mxV (hs : List MR) : List (List Value) := hs.map fun h => [.slice h.1 h.2.2.length h.2.1]
theorem mxV_app (a b : List MR) : mxV (a ++ b) = mxV a ++ mxV b := List.map_append
abbrev ownR (T : TypeId) (h : MR) : Ent := .own h.1 h.2.1 T 1 h.2.2.length (mI h.2.2)
def apR (T : TypeId) (h h' : MR) : Prop := ∀ b, (ownR T h).fp b → (ownR T h').fp b → False
def mxE (T : TypeId) (hs : List MR) : Ent := .gen true true (fun b => ∃ h ∈ hs, (ownR T h).fp b) (fun w => (∀ h ∈ hs, (ownR T h).ok w) ∧ hs.Pairwise (apR T))
  (fun w w' hb hok => ⟨fun h hh => Ent.ok_frame (e := ownR T h) (hok.1 h hh) fun b hf => hb b ⟨h, hh, hf⟩, hok.2⟩) (fun w b hok ⟨h, hh, hf⟩ => Ent.ok_lt (e := ownR T h) (hok.1 h hh) hf)
theorem mx_rd {T : TypeId} {hs : List MR} {i : Nat} {h : MR} (hi : hs[i]? = some h) : ∀ w, (mxE T hs).ok w → Rd w h.1 1 h.2.2.length (mI h.2.2) := fun w hw => (hw.1 h (List.mem_of_getElem? hi)).2
section
variable {w0 w : World} {L : List Ent} {T : TypeId}
theorem St.mx0 (h : St w0 w L) : St w0 w (mxE T [] :: L) := by
  refine ⟨h.below, fun x hx => ?_, fun x hx hf b hb => ?_, List.pairwise_cons.2 ⟨fun x hx hor b hb hb' => ?_, h.sep⟩⟩
  · rcases List.mem_cons.1 hx with rfl | hx
    · exact ⟨fun r hr => (by cases hr), List.Pairwise.nil⟩
    · exact h.ok x hx
  · rcases List.mem_cons.1 hx with rfl | hx
    · obtain ⟨r, hr, _⟩ := hb; cases hr
    · exact h.new x hx hf b hb
  · obtain ⟨r, hr, _⟩ := hb; cases hr
theorem St.mxJoin {hs hs' : List MR} {r : MR} (hp : hs'.Perm (r :: hs)) (h : St w0 w (ownR T r :: mxE T hs :: L)) : St w0 w (mxE T hs' :: L) := by
  have h1 := List.pairwise_cons.1 h.sep
  have h2 := List.pairwise_cons.1 h1.2
  have hok := h.ok (mxE T hs) (by simp)
  have hr := h.ok (ownR T r) (by simp)
  have hmem : ∀ x, x ∈ hs' ↔ x = r ∨ x ∈ hs := fun x => by rw [hp.mem_iff, List.mem_cons]
  have hfp : ∀ b, (mxE T hs').fp b → (ownR T r).fp b ∨ (mxE T hs).fp b := fun b ⟨x, hx, hb⟩ => by
    rcases (hmem x).1 hx with rfl | hx
    · exact .inl hb
    · exact .inr ⟨x, hx, hb⟩
  have hsym : ∀ {x y : MR}, apR T x y → apR T y x := fun hxy b hb hb' => hxy b hb' hb
  refine ⟨h.below, fun x hx => ?_, fun x hx hf b hb => ?_, List.pairwise_cons.2 ⟨fun x hx hor b hb hb' => ?_, h2.2⟩⟩
  · rcases List.mem_cons.1 hx with rfl | hx
    · refine ⟨fun y hy => ?_, (hp.pairwise_iff hsym).2 (List.pairwise_cons.2 ⟨fun y hy b hb hb' => h1.1 (mxE T hs) (by simp) (.inl rfl) b hb ⟨y, hy, hb'⟩, hok.2⟩)⟩
      rcases (hmem y).1 hy with rfl | hy
      · exact hr
      · exact hok.1 y hy
    · exact h.ok x (by simp [hx])
  · rcases List.mem_cons.1 hx with rfl | hx
    · rcases hfp b hb with hb | hb
      · exact h.new (ownR T r) (by simp) rfl b hb
      · exact h.new (mxE T hs) (by simp) rfl b hb
    · exact h.new x (by simp [hx]) hf b hb
  · rcases hfp b hb with hb | hb
    · exact h1.1 x (by simp [hx]) (.inl rfl) b hb hb'
    · exact h2.1 x hx (.inl rfl) b hb hb'
theorem St.mxSplit {hs hs' : List MR} {r : MR} (hp : hs'.Perm (r :: hs)) (h : St w0 w (mxE T hs' :: L)) : St w0 w (ownR T r :: mxE T hs :: L) := by
  have h1 := List.pairwise_cons.1 h.sep
  have hok := h.ok (mxE T hs') (by simp)
  have hmem : ∀ x, x ∈ hs' ↔ x = r ∨ x ∈ hs := fun x => by rw [hp.mem_iff, List.mem_cons]
  have hsym : ∀ {x y : MR}, apR T x y → apR T y x := fun hxy b hb hb' => hxy b hb' hb
  have hpw := List.pairwise_cons.1 ((hp.pairwise_iff hsym).1 hok.2)
  have hr : ∀ b, (ownR T r).fp b → (mxE T hs').fp b := fun b hb => ⟨r, (hmem r).2 (.inl rfl), hb⟩
  have hm : ∀ b, (mxE T hs).fp b → (mxE T hs').fp b := fun b ⟨x, hx, hb⟩ => ⟨x, (hmem x).2 (.inr hx), hb⟩
  refine ⟨h.below, fun x hx => ?_, fun x hx hf b hb => ?_, List.pairwise_cons.2 ⟨fun x hx hor b hb hb' => ?_, List.pairwise_cons.2 ⟨fun x hx hor b hb hb' => ?_, h1.2⟩⟩⟩
  · rcases List.mem_cons.1 hx with rfl | hx
    · exact hok.1 r ((hmem r).2 (.inl rfl))
    · rcases List.mem_cons.1 hx with rfl | hx
      · exact ⟨fun y hy => hok.1 y ((hmem y).2 (.inr hy)), hpw.2⟩
      · exact h.ok x (by simp [hx])
  · rcases List.mem_cons.1 hx with rfl | hx
    · exact h.new (mxE T hs') (by simp) rfl b (hr b hb)
    · rcases List.mem_cons.1 hx with rfl | hx
      · exact h.new (mxE T hs') (by simp) rfl b (hm b hb)
      · exact h.new x (by simp [hx]) hf b hb
  · rcases List.mem_cons.1 hx with rfl | hx
    · obtain ⟨y, hy, hb'⟩ := hb'
      exact hpw.1 y hy b hb hb'
    · exact h1.1 x hx (.inl rfl) b (hr b hb) hb'
  · exact h1.1 x hx (.inl rfl) b (hm b hb) hb'
end
theorem perm_add (hs : List MR) (r : MR) : (hs ++ [r]).Perm (r :: hs) := List.perm_append_singleton r hs
theorem perm_at : ∀ {hs : List MR} {i : Nat} {r : MR}, hs[i]? = some r → hs.Perm (r :: hs.eraseIdx i)
  | [], i, r, h => by simp at h
  | x :: hs, 0, r, h => by
    obtain rfl : x = r := by simpa using h
    exact List.Perm.refl _
  | x :: hs, i + 1, r, h => ((perm_at (hs := hs) (i := i) (by simpa using h)).cons x).trans (List.Perm.swap r x _)
theorem perm_set {hs : List MR} {i : Nat} {r r' : MR} (h : hs[i]? = some r) : (hs.set i r').Perm (r' :: hs.eraseIdx i) := by
  have hi := (List.getElem?_eq_some_iff.1 h).1
  have h2 : (hs.set i r')[i]? = some r' := List.getElem?_set_self hi
  have := perm_at h2
  rwa [List.eraseIdx_set_eq] at this
section
variable {F : Fence} {P : Program} {ops : Array Oper} {Q : Exit → Act → World → Prop} {rest : List Oper} {n : Nat} {D : List Deferred} {l : Env} {w0 : World} {L M M' : List Ent} {T : TypeId}
theorem WC.mx0 {c : Code} (T : TypeId) (h : WC F P c Q n D l w0 (mxE T [] :: L)) : WC F P c Q n D l w0 L := fun hF a w hfr hst => h hF a w hfr hst.mx0
theorem WC.mxAdd {c : Code} {hs : List MR} (A : Option Addr) (cap : Nat) (xs : List Int) {m : Nat} {es : List (List Value)} (ha : At L (.own A cap T 1 m es) M) (hb : At M (mxE T hs) M') (hm : m = xs.length) (he : es = mI xs) (h : WC F P c Q n D l w0 (mxE T (hs ++ [(A, cap, xs)]) :: M')) : WC F P c Q n D l w0 L := fun hF a w hfr hst => h hF a w hfr (by
  subst hm he
  exact (hst.sub (.cons ha (.cons hb (SubL.refl _)))).mxJoin (perm_add hs (A, cap, xs)))
theorem WL.mxAt {hs : List MR} {i : Nat} {r : MR} (hi : hs[i]? = some r) (ha : At L (mxE T hs) M) (h : WL F P ops Q rest n D l w0 (ownR T r :: mxE T (hs.eraseIdx i) :: M)) : WL F P ops Q rest n D l w0 L := fun hF a w hfr hst => h hF a w hfr ((hst.pull ha).mxSplit (perm_at hi))
theorem WL.mxPut {hs : List MR} {i : Nat} {r : MR} (A : Option Addr) (cap : Nat) (xs : List Int) {m : Nat} {es : List (List Value)} (hi : hs[i]? = some r) (ha : At L (.own A cap T 1 m es) M) (hb : At M (mxE T (hs.eraseIdx i)) M') (hm : m = xs.length) (he : es = mI xs) (h : WL F P ops Q rest n D l w0 (mxE T (hs.set i (A, cap, xs)) :: M')) : WL F P ops Q rest n D l w0 L := fun hF a w hfr hst => h hF a w hfr (by
  subst hm he
  exact (hst.sub (.cons ha (.cons hb (SubL.refl _)))).mxJoin (perm_set hi))
end
def zrow (K : Nat) : List Int := List.replicate K 0
theorem zrow_len (K : Nat) : (zrow K).length = K := List.length_replicate
theorem zrow_mi (K : Nat) : List.replicate K [Value.int .i64 0] = mI (zrow K) := by simp [mI, zrow]
theorem mxV_z (A : Option Addr) (c K : Nat) : mxV [(A, c, zrow K)] = [[.slice A K c]] := by simp [mxV, zrow_len]
def gv (hs : List MR) (a b : Nat) : Int := ((hs[a]?).getD (none, 0, [])).2.2.getD b 0
structure Mx (K : Nat) (hs : List MR) (V : List (List Value)) : Prop where
  v : mxV hs = V
  len : hs.length = K
  row : ∀ h ∈ hs, h.2.2.length = K
theorem Mx.at {K : Nat} {hs : List MR} {V : List (List Value)} (h : Mx K hs V) {a : Nat} (ha : a < K) : ∃ (A : Option Addr) (c : Nat) (xs : List Int), hs[a]? = some (A, c, xs) ∧ xs.length = K ∧ V[a]? = some [.slice A K c] ∧ (∀ b, gv hs a b = xs.getD b 0) ∧ ∀ (T : TypeId) (w : World), (mxE T hs).ok w → Rd w A 1 K (mI xs) := by
  obtain ⟨⟨A, c, xs⟩, hr⟩ : ∃ r, hs[a]? = some r := ⟨_, List.getElem?_eq_getElem (by rw [h.len]; exact ha)⟩
  have hl : xs.length = K := h.row _ (List.mem_of_getElem? hr)
  refine ⟨A, c, xs, hr, hl, ?_, fun b => by rw [gv, hr]; rfl, fun T w hw => by have := mx_rd hr w hw; rwa [hl] at this⟩
  rw [← h.v, mxV, List.getElem?_map, hr, Option.map_some, hl]
theorem Mx.set {K : Nat} {hs : List MR} {V : List (List Value)} (h : Mx K hs V) {a : Nat} {A : Option Addr} {c : Nat} {xs : List Int} (hr : hs[a]? = some (A, c, xs)) (b : Nat) (v : Int) : Mx K (hs.set a (A, c, xs.set b v)) V := by
  have hi := (List.getElem?_eq_some_iff.1 hr).1
  refine ⟨?_, by rw [List.length_set]; exact h.len, fun x hx => ?_⟩
  · rw [← h.v]
    unfold mxV
    rw [List.map_set]
    refine List.ext_getElem? fun i => ?_
    by_cases e : a = i
    · subst e
      rw [List.getElem?_set_self (by rw [List.length_map]; exact hi), List.getElem?_map, hr, Option.map_some, List.length_set]
    · rw [List.getElem?_set_ne e]
  · rcases List.mem_or_eq_of_mem_set hx with hx | rfl
    · exact h.row x hx
    · rw [List.length_set]; exact h.row _ (List.mem_of_getElem? hr)
theorem gv_set {hs : List MR} {a : Nat} {A : Option Addr} {c : Nat} {xs : List Int} (hr : hs[a]? = some (A, c, xs)) {b : Nat} (hb : b < xs.length) (v : Int) (i j : Nat) : gv (hs.set a (A, c, xs.set b v)) i j = if i = a ∧ j = b then v else gv hs i j := by
  have hi := (List.getElem?_eq_some_iff.1 hr).1
  unfold gv
  by_cases e : a = i
  · subst e
    rw [List.getElem?_set_self hi, hr]
    simp only [Option.getD_some, true_and, List.getD_eq_getElem?_getD]
    by_cases e2 : b = j
    · subst e2
      rw [if_pos rfl, List.getElem?_set_self hb]; rfl
    · rw [if_neg (fun h => e2 h.symm), List.getElem?_set_ne e2]
  · rw [List.getElem?_set_ne e, if_neg (fun h => e h.1.symm)]
end Go.Proofs.Ytacaojifempclaa

namespace Go.Proofs.Ytacaojifempclaa
open Go Go.RowKit

def Did (sum a k x y side : Int) : Prop := x + y < sum ∨ (x + y = sum ∧ (x < a ∨ (x = a ∧ side < k)))
def posT (f : Fmt) (s : Pr) (sum a k i j : Int) : Prop := (i = 0 ∧ j = 0) ∨ (OpenP f s (i - 1) j ∧ EndP f s (i - 1) j 0 = false ∧ Did sum a k (i - 1) j 0) ∨ (OpenP f s i (j - 1) ∧ EndP f s i (j - 1) 1 = false ∧ Did sum a k i (j - 1) 1)
def posU (f : Fmt) (s : Pr) (sum a k i j : Int) : Prop := (OpenP f s (i - 1) j ∧ EndP f s (i - 1) j 0 = true ∧ Did sum a k (i - 1) j 0) ∨ (OpenP f s i (j - 1) ∧ EndP f s i (j - 1) 1 = true ∧ Did sum a k i (j - 1) 1)
def MW : Int := 1000000000001
structure OrdI (f : Fmt) (s : Pr) (sum a k : Int) (T U : List MR) : Prop where
  t : ∀ i j : Nat, i < 45 → j < 45 → (0 ≤ gv T i j ∧ gv T i j ≤ MW) ∧ (0 < gv T i j ↔ posT f s sum a k i j)
  u : ∀ i j : Nat, i < 45 → j < 45 → (0 ≤ gv U i j ∧ gv U i j ≤ MW) ∧ (0 < gv U i j ↔ posU f s sum a k i j)
section
variable {f : Fmt} {s : Pr}
theorem open_of_prev (h : TieOk f s) {a b : Int} (ho : OpenP f s (a - 1) b) (he : EndP f s (a - 1) b 0 = false) : OpenP f s a b := by
  have := open_next h ho he
  rwa [Int.sub_add_cancel] at this
theorem open_of_prev' (h : TieOk f s) {a b : Int} (ho : OpenP f s a (b - 1)) (he : EndP f s a (b - 1) 1 = false) : OpenP f s a b := by
  have := open_next' h ho he
  rwa [Int.sub_add_cancel] at this
theorem pos_open (h : TieOk f s) {sum a k x y : Int} (hxy : x + y ≤ sum) : posT f s sum a k x y ↔ OpenP f s x y := by
  constructor
  · rintro (⟨rfl, rfl⟩ | ⟨h1, h2, _⟩ | ⟨h1, h2, _⟩)
    · exact open0 h
    · exact open_of_prev h h1 h2
    · exact open_of_prev' h h1 h2
  · intro ho
    rcases open_end h ho with h0 | ⟨h1, h2⟩ | ⟨_, h2, h3⟩
    · exact .inl h0
    · exact .inr (.inl ⟨h1, h2, .inl (by omega)⟩)
    · exact .inr (.inr ⟨h2, h3, .inl (by omega)⟩)
theorem OrdI.weak {sum a k sum' a' k' : Int} {T U : List MR} (h : OrdI f s sum a k T U) (hd : ∀ x y side : Int, OpenP f s x y → (0 ≤ x ∧ x ≤ 44 ∧ 0 ≤ y ∧ y ≤ 44) → side = 0 ∨ side = 1 → (side = 0 → x ≤ 43) → (side = 1 → y ≤ 43) → (Did sum a k x y side ↔ Did sum' a' k' x y side)) : OrdI f s sum' a' k' T U := by
  refine ⟨fun i j hi hj => ⟨(h.t i j hi hj).1, (h.t i j hi hj).2.trans ?_⟩, fun i j hi hj => ⟨(h.u i j hi hj).1, (h.u i j hi hj).2.trans ?_⟩⟩
  · refine or_congr Iff.rfl (or_congr (and_congr_right fun h1 => and_congr_right fun _ => ?_) (and_congr_right fun h1 => and_congr_right fun _ => ?_))
    · have := h1; unfold OpenP at this; exact hd _ _ _ h1 (by omega) (.inl rfl) (by omega) (by omega)
    · have := h1; unfold OpenP at this; exact hd _ _ _ h1 (by omega) (.inr rfl) (by omega) (by omega)
  · refine or_congr (and_congr_right fun h1 => and_congr_right fun _ => ?_) (and_congr_right fun h1 => and_congr_right fun _ => ?_)
    · have := h1; unfold OpenP at this; exact hd _ _ _ h1 (by omega) (.inl rfl) (by omega) (by omega)
    · have := h1; unfold OpenP at this; exact hd _ _ _ h1 (by omega) (.inr rfl) (by omega) (by omega)
theorem ord_pair {sum a k : Int} {T U : List MR} (h : OrdI f s sum a k T U) (hk : 2 ≤ k ∨ ¬ OpenP f s a (sum - a)) (hk0 : 0 ≤ k) : OrdI f s sum (a + 1) 0 T U :=
  h.weak fun x y side ho hb hs _ _ => by
    rcases hk with hk | hk
    · unfold Did; omega
    · by_cases e : x = a ∧ y = sum - a
      · exact absurd (by rw [← e.1, ← show y = sum - x by omega]; exact ho) hk
      · unfold Did; omega
theorem ord_out {sum a k : Int} {T U : List MR} (h : OrdI f s sum a k T U) (hk : (k = 0 ∧ 44 ≤ a) ∨ (k = 1 ∧ 44 ≤ sum - a)) : OrdI f s sum a (k + 1) T U :=
  h.weak fun x y side ho hb hs h0 h1 => by unfold Did; omega
theorem ord_row {sum a : Int} {T U : List MR} (h : OrdI f s sum a 0 T U) (ha : min sum 44 < a) : OrdI f s (sum + 1) (max 0 (sum + 1 - 44)) 0 T U :=
  h.weak fun x y side ho hb hs h0 h1 => by unfold Did; omega
theorem did_next (sum a k x y side : Int) : Did sum a (k + 1) x y side ↔ Did sum a k x y side ∨ (x + y = sum ∧ x = a ∧ side = k) := by
  unfold Did; omega
def Tgt (sum a k i j : Int) : Prop := (k = 0 ∧ i = a + 1 ∧ j = sum - a) ∨ (k = 1 ∧ i = a ∧ j = sum - a + 1)
theorem next_aux {b : Bool} {sum a k i j : Int} (ho : OpenP f s a (sum - a)) :
    ((OpenP f s (i - 1) j ∧ EndP f s (i - 1) j 0 = b ∧ Did sum a (k + 1) (i - 1) j 0) ∨ (OpenP f s i (j - 1) ∧ EndP f s i (j - 1) 1 = b ∧ Did sum a (k + 1) i (j - 1) 1)) ↔
    ((OpenP f s (i - 1) j ∧ EndP f s (i - 1) j 0 = b ∧ Did sum a k (i - 1) j 0) ∨ (OpenP f s i (j - 1) ∧ EndP f s i (j - 1) 1 = b ∧ Did sum a k i (j - 1) 1)) ∨ (EndP f s a (sum - a) k = b ∧ Tgt sum a k i j) := by
  rw [did_next, did_next]
  constructor
  · rintro (⟨h1, h2, h3 | ⟨e1, e2, e3⟩⟩ | ⟨h1, h2, h3 | ⟨e1, e2, e3⟩⟩)
    · exact .inl (.inl ⟨h1, h2, h3⟩)
    · subst e3
      obtain rfl : j = sum - a := by omega
      rw [e2] at h2
      exact .inr ⟨h2, .inl ⟨rfl, by omega, rfl⟩⟩
    · exact .inl (.inr ⟨h1, h2, h3⟩)
    · subst e3 e2
      rw [show j - 1 = sum - i by omega] at h2
      exact .inr ⟨h2, .inr ⟨rfl, rfl, by omega⟩⟩
  · rintro ((⟨h1, h2, h3⟩ | ⟨h1, h2, h3⟩) | ⟨h1, (⟨rfl, rfl, rfl⟩ | ⟨rfl, rfl, rfl⟩)⟩)
    · exact .inl ⟨h1, h2, .inl h3⟩
    · exact .inr ⟨h1, h2, .inl h3⟩
    · exact .inl ⟨by rw [Int.add_sub_cancel]; exact ho, by rw [Int.add_sub_cancel]; exact h1, .inr ⟨by omega, by omega, rfl⟩⟩
    · exact .inr ⟨by rw [Int.add_sub_cancel]; exact ho, by rw [Int.add_sub_cancel]; exact h1, .inr ⟨by omega, rfl, rfl⟩⟩
theorem posU_next {sum a k i j : Int} (ho : OpenP f s a (sum - a)) : posU f s sum a (k + 1) i j ↔ posU f s sum a k i j ∨ (EndP f s a (sum - a) k = true ∧ Tgt sum a k i j) := next_aux ho
theorem posT_next {sum a k i j : Int} (ho : OpenP f s a (sum - a)) : posT f s sum a (k + 1) i j ↔ posT f s sum a k i j ∨ (EndP f s a (sum - a) k = false ∧ Tgt sum a k i j) := by
  unfold posT
  rw [next_aux ho]
  simp only [or_assoc]
theorem tgt_uniq {sum a k : Int} {i j x y : Nat} (h : Tgt sum a k i j) : Tgt sum a k x y ↔ x = i ∧ y = j := by
  unfold Tgt at *; omega
theorem ord_U {sum a k v : Int} {T U U' : List MR} (h : OrdI f s sum a k T U) {i j : Nat} (hk : Tgt sum a k i j) (ho : OpenP f s a (sum - a)) (he : EndP f s a (sum - a) k = true) (hv : 0 < v ∧ v ≤ MW)
    (hU : ∀ x y : Nat, gv U' x y = if x = i ∧ y = j then v else gv U x y) : OrdI f s sum a (k + 1) T U' := by
  refine ⟨fun x y hx hy => ⟨(h.t x y hx hy).1, (h.t x y hx hy).2.trans ?_⟩, fun x y hx hy => ?_⟩
  · rw [posT_next ho, he]
    exact ⟨.inl, fun e => e.resolve_right fun e => by cases e.1⟩
  · rw [hU, posU_next ho]
    have hu := h.u x y hx hy
    by_cases e : x = i ∧ y = j
    · rw [if_pos e]
      exact ⟨by omega, fun _ => .inr ⟨he, (tgt_uniq hk).2 e⟩, fun _ => hv.1⟩
    · rw [if_neg e]
      exact ⟨hu.1, fun e1 => .inl (hu.2.1 e1), fun e1 => hu.2.2 (e1.resolve_right fun e2 => e ((tgt_uniq hk).1 e2.2))⟩
theorem ord_T {sum a k v : Int} {T U T' : List MR} (h : OrdI f s sum a k T U) {i j : Nat} (hk : Tgt sum a k i j) (ho : OpenP f s a (sum - a)) (he : EndP f s a (sum - a) k = false) (hv : 0 < v ∧ v ≤ MW)
    (hT : ∀ x y : Nat, gv T' x y = if x = i ∧ y = j then v else gv T x y) : OrdI f s sum a (k + 1) T' U := by
  refine ⟨fun x y hx hy => ?_, fun x y hx hy => ⟨(h.u x y hx hy).1, (h.u x y hx hy).2.trans ?_⟩⟩
  · rw [hT, posT_next ho]
    have hu := h.t x y hx hy
    by_cases e : x = i ∧ y = j
    · rw [if_pos e]
      exact ⟨by omega, fun _ => .inr ⟨he, (tgt_uniq hk).2 e⟩, fun _ => hv.1⟩
    · rw [if_neg e]
      exact ⟨hu.1, fun e1 => .inl (hu.2.1 e1), fun e1 => hu.2.2 (e1.resolve_right fun e2 => e ((tgt_uniq hk).1 e2.2))⟩
  · rw [posU_next ho, he]
    exact ⟨.inl, fun e => e.resolve_right fun e => by cases e.1⟩
theorem ord_init {T U : List MR} (hT : ∀ i j : Nat, i < 45 → j < 45 → gv T i j = if i = 0 ∧ j = 0 then 1 else 0) (hU : ∀ i j : Nat, i < 45 → j < 45 → gv U i j = 0) : OrdI f s 0 0 0 T U := by
  have hn : ∀ x y side : Int, OpenP f s x y → side = 0 ∨ side = 1 → ¬ Did 0 0 0 x y side := fun x y side ho hs => by unfold OpenP at ho; unfold Did; omega
  refine ⟨fun i j hi hj => ?_, fun i j hi hj => ?_⟩
  · rw [hT i j hi hj]
    by_cases e : i = 0 ∧ j = 0
    · rw [if_pos e]
      exact ⟨by decide, fun _ => .inl (by omega), fun _ => by decide⟩
    · rw [if_neg e]
      refine ⟨by decide, fun h => absurd h (by decide), ?_⟩
      rintro (h | ⟨h1, _, h3⟩ | ⟨h1, _, h3⟩)
      · omega
      · exact absurd h3 (hn _ _ _ h1 (.inl rfl))
      · exact absurd h3 (hn _ _ _ h1 (.inr rfl))
  · rw [hU i j hi hj]
    refine ⟨by decide, fun h => absurd h (by decide), ?_⟩
    rintro (⟨h1, _, h3⟩ | ⟨h1, _, h3⟩)
    · exact absurd h3 (hn _ _ _ h1 (.inl rfl))
    · exact absurd h3 (hn _ _ _ h1 (.inr rfl))
theorem ord_end (ht : TieOk f s) {a k : Int} {T U : List MR} (h : OrdI f s 88 a k T U) : ∀ i j : Nat, i < 45 → j < 45 → (0 < gv T i j ↔ expT f s i j = some false) ∧ (gv U i j = 0 ↔ ¬ expT f s i j = some true) := fun i j hi hj => by
  have h1 := h.t i j hi hj
  have h2 := h.u i j hi hj
  refine ⟨?_, ?_⟩
  · rw [exp_open ht, h1.2, pos_open ht (by omega)]
  · have hz : gv U i j = 0 ↔ ¬ 0 < gv U i j := by omega
    rw [hz, h2.2, not_congr]
    have hd : ∀ x y side : Int, x + y < 88 → Did 88 a k x y side := fun x y side h => .inl h
    constructor
    · rintro (⟨g1, g2, _⟩ | ⟨g1, g2, _⟩)
      · unfold expT
        rw [if_neg (fun e => by unfold OpenP at g1; omega), if_pos g1, g2]
      · unfold expT
        rw [if_neg (fun e => by unfold OpenP at g1; omega)]
        by_cases g : OpenP f s ((i : Int) - 1) j
        · rw [if_pos g, ends_agree ht g g1, g2]
        · rw [if_neg g, if_pos g1, g2]
    · intro he
      unfold expT at he
      by_cases g0 : (i : Int) = 0 ∧ (j : Int) = 0
      · rw [if_pos g0] at he; cases he
      · rw [if_neg g0] at he
        by_cases g : OpenP f s ((i : Int) - 1) j
        · rw [if_pos g] at he
          exact .inl ⟨g, Option.some.inj he, hd _ _ _ (by omega)⟩
        · rw [if_neg g] at he
          by_cases g2 : OpenP f s i ((j : Int) - 1)
          · rw [if_pos g2] at he
            exact .inr ⟨g2, Option.some.inj he, hd _ _ _ (by omega)⟩
          · rw [if_neg g2] at he; cases he
end
end Go.Proofs.Ytacaojifempclaa

namespace Go.Proofs.Ytacaojifempclaa
open Go Go.RowKit

instance : DecidableEq Brd := fun a b => by
  cases a; cases b
  simp only [Brd.mk.injEq]
  infer_instance
def exF : Fmt := ⟨2, 2, false, 2, 3, 0, 4, 2, 2, false⟩
def exP : List Int := [0, 0, 0, 0, 1, 1, 1, 1, 0, 0, 0, 0, 0, 0, 0, 0, 1, 1, 1, 1]
theorem C_law1_Example (w : World) : CR Try.prog 35 [] w (fun _ : Option Addr × Nat => True) (fun x => .tuple #[exF.val, .slice x.1 20 x.2]) (fun x => [.own x.1 x.2 3 1 20 (encI exP)]) := by
  refine ⟨en Try.func35 Try.ntmps35 (St.init w) (h := fun F => ?_)⟩
  refine sq (h := ?_)
  refine rg (h := ?_)
  refine al (h := fun b0 => ?_)
  refine WL.y (hy := asg) (h := ?_)
  refine nl (h := ?_)
  refine q_seq (h := ?_)
  refine sq (h := ?_)
  refine rg (h := ?_)
  refine WL.y (hy := bd) (h := ?_)
  refine al (h := fun b1 => ?_)
  first | refine stA (h := ?_) | refine stEA (h := ?_)
  refine nl (h := ?_)
  refine q_seq (h := ?_)
  refine sq (h := ?_)
  refine rg (h := ?_)
  refine WL.y (hy := (by first | exact ldA | exact ldEA)) (h := ?_)
  refine bs (h := fun b2 => ?_)
  first | refine stA (h := ?_) | refine stEA (h := ?_)
  refine WL.y (hy := asg) (h := ?_)
  refine nl (h := ?_)
  refine q_seq (h := ?_)
  refine rtn (h := ?_)
  refine q_ret (hR := ?_)
  exact fun w hS => ⟨(_, _), trivial, rfl, hS.sub (by repeat (first | exact SubL.nil | (apply SubL.cons; (repeat (first | exact At.here | apply At.there))) | exact SubL.refl _ | apply SubL.skip))⟩
def Stable (t : Tb) (k : Int) : Prop := ∀ e ∈ t, k ≤ e.1.1 + e.1.2 → e.2.2 = true
theorem tget_mem {t : Tb} {p : Pr} {v : Stn} (h : tget t p = some v) : (p, v) ∈ t := by
  induction t with
  | nil => simp [tget] at h
  | cons e t ih =>
    rw [tget] at h
    split at h
    · next hp => injection h with h; subst hp h; exact List.mem_cons_self
    · exact List.mem_cons_of_mem _ (ih h)
theorem pair_stable {f : Fmt} {s p : Pr} {t : Tb} {k : Int} (h : Stable t k) (hp : k ≤ p.1 + p.2) : pairT f s p t = t := by
  unfold pairT
  cases hg : tget t p with
  | none => rfl
  | some v =>
    have hv := h _ (tget_mem hg) hp
    simp only at hv
    have : tat t p = v := by rw [tat, hg]; rfl
    rw [this, hv]; simp
theorem row_stable {f : Fmt} {s : Pr} {t : Tb} {k : Int} (h : Stable t k) {all : Nat} (ha : k ≤ all) : ∀ j, rowTo f s all t j = t
  | 0 => rfl
  | j + 1 => by rw [rowTo, row_stable h ha j]; exact pair_stable h (by dsimp only; omega)
theorem tbl_stable {f : Fmt} {s : Pr} {k0 : Nat} (h : Stable (tblTo f s k0) k0) : ∀ k, k0 ≤ k → tblTo f s k = tblTo f s k0
  | 0, hk => by obtain rfl : k0 = 0 := by omega
                rfl
  | k + 1, hk => by
    by_cases e : k0 = k + 1
    · subst e; rfl
    · have ih := tbl_stable h k (by omega)
      rw [tblTo, ih]
      exact row_stable h (by omega) _
def exT : Tb := [((0, 0), (1, false)), ((1, 0), (1, false)), ((0, 1), (1, false)), ((1, 1), (2, false)), ((0, 2), (1, true)), ((2, 0), (1, true)), ((2, 1), (2, false)), ((1, 2), (2, false)), ((2, 2), (4, false)), ((1, 3), (2, true)), ((3, 1), (2, true)), ((3, 2), (4, true)), ((2, 3), (4, true))]
theorem ex_table6 : tblTo exF (2, 3) 6 = exT := by kernel_rfl
theorem ex_table : tableV exF (2, 3) = exT := by
  have h : Stable (tblTo exF (2, 3) 6) ((6 : Nat) : Int) := by
    rw [ex_table6]; unfold Stable exT; decide
  rw [tableV, tbl_stable h 82 (by omega), ex_table6]
theorem ex_arises : arisesV exF ⟨[], (0, 0), (0, 0)⟩ = ((0, 0), true) := by
  have h0 : setsTo (tableV exF) exF (Brd.mk [] (0, 0) (0, 0)).st (Brd.mk [] (0, 0) (0, 0)).st.length = ⟨(0, 0), 1, true⟩ := rfl
  have h2 : setV exF (0, 0) = (2, 3) := by decide
  rw [arisesV, arisesT, h0]
  dsimp only
  rw [h2, ex_table]
  exact (by kernel_rfl : (arisesT (fun _ => exT) exF ⟨[], (0, 0), (0, 0)⟩ = ((0, 0), true)))
end Go.Proofs.Ytacaojifempclaa

namespace Go.Proofs.Ytacaojifempclaa
open Go Go.RowKit

theorem C_ref1_within (n lo hi : Int) (w : World) : C0 Try.prog 48 [.int .i64 n, .int .i64 lo, .int .i64 hi] w (.bool (wi n lo hi)) := by
  refine ⟨en Try.func48 Try.ntmps48 (St.init w) (h := fun F => ?_)⟩
  refine sq (h := ?_)
  refine rg (h := ?_)
  refine WL.y (hy := asg) (h := ?_)
  refine nl (h := ?_)
  refine q_seq (h := ?_)
  refine sq (h := ?_)
  refine rg (h := ?_)
  refine WL.y (hy := mv) (h := ?_)
  refine WL.y (hy := mv) (h := ?_)
  refine WL.y (hy := geq) (h := ?_)
  refine WL.y (hy := mv) (h := ?_)
  apply brAnd 4 10 14 (by exact rfl)
  · intro hb0
    refine un (h := ?_)
    refine WL.y (hy := mv) (h := ?_)
    refine un (h := ?_)
    refine WL.y (hy := mv) (h := ?_)
    refine un (h := ?_)
    refine WL.y (hy := leq) (h := ?_)
    refine WL.y (hy := (by first | exact pkT | exact pkF)) (h := ?_)
    exact mg (by repeat (first | exact trivial | refine ⟨rfl, ?_⟩ | refine ⟨by rw [hb0]; rfl, ?_⟩)) (by repeat (first | exact SubL.nil | (apply SubL.cons; (repeat (first | exact At.here | apply At.there))) | exact SubL.refl _ | apply SubL.skip))
  · intro hb0
    repeat (first | refine un (h := ?_) | refine sk (h := ?_) | refine WL.y (hy := pkF) (h := ?_) | refine WL.y (hy := pkT) (h := ?_))
    exact mg (by repeat (first | exact trivial | refine ⟨rfl, ?_⟩ | refine ⟨by rw [hb0]; rfl, ?_⟩)) (by repeat (first | exact SubL.nil | (apply SubL.cons; (repeat (first | exact At.here | apply At.there))) | exact SubL.refl _ | apply SubL.skip))
  refine WL.y (hy := asg) (h := ?_)
  refine nl (h := ?_)
  refine q_seq (h := ?_)
  refine rtn (h := ?_)
  refine q_ret (hR := ?_)
  exact fun w hS => ⟨rfl, hS.sub (by repeat (first | exact SubL.nil | (apply SubL.cons; (repeat (first | exact At.here | apply At.there))) | exact SubL.refl _ | apply SubL.skip))⟩
theorem C_ref1_isTie (f : Fmt) (n : Int) (hg : 1 ≤ f.games ∧ f.games ≤ 8) (w : World) : C0 Try.prog 88 [f.val, .int .i64 n] w (.bool (tieB f n)) := by
  refine ⟨en Try.func88 Try.ntmps88 (St.init w) (h := fun F => ?_)⟩
  refine sq (h := ?_)
  refine rg (h := ?_)
  refine bxA (h := fun b0 => ?_)
  refine WL.y (hy := asg) (h := ?_)
  refine nl (h := ?_)
  refine q_seq (h := ?_)
  refine sq (h := ?_)
  refine rg (h := ?_)
  refine WL.y (hy := mv) (h := ?_)
  refine WL.y (hy := eql) (h := ?_)
  refine WL.y (hy := mv) (h := ?_)
  apply brOr 3 7 10 (by exact rfl)
  · intro hb0
    refine un (h := ?_)
    refine WL.y (hy := mv) (h := ?_)
    refine un (h := ?_)
    refine WL.y (hy := eql) (h := ?_)
    refine WL.y (hy := (by first | exact pkT | exact pkF)) (h := ?_)
    exact mg (by repeat (first | exact trivial | refine ⟨rfl, ?_⟩ | refine ⟨by rw [hb0]; rfl, ?_⟩)) (by repeat (first | exact SubL.nil | (apply SubL.cons; (repeat (first | exact At.here | apply At.there))) | exact SubL.refl _ | apply SubL.skip))
  · intro hb0
    repeat (first | refine un (h := ?_) | refine sk (h := ?_) | refine WL.y (hy := pkF) (h := ?_) | refine WL.y (hy := pkT) (h := ?_))
    exact mg (by repeat (first | exact trivial | refine ⟨rfl, ?_⟩ | refine ⟨by rw [hb0]; rfl, ?_⟩)) (by repeat (first | exact SubL.nil | (apply SubL.cons; (repeat (first | exact At.here | apply At.there))) | exact SubL.refl _ | apply SubL.skip))
  refine WL.y (hy := mv) (h := ?_)
  apply brOr 6 11 17 (by exact rfl)
  · intro hb1
    refine un (h := ?_)
    refine WL.y (hy := mv) (h := ?_)
    refine un (h := ?_)
    refine WL.y (hy := (by first | exact fa | exact faE)) (h := ?_)
    refine un (h := ?_)
    refine WL.y (hy := (by first | exact ld | exact ldE)) (h := ?_)
    refine un (h := ?_)
    refine WL.y (hy := subI) (h := ?_)
    refine un (h := ?_)
    refine WL.y (hy := eql) (h := ?_)
    refine WL.y (hy := (by first | exact pkT | exact pkF)) (h := ?_)
    exact mg (by repeat (first | exact trivial | refine ⟨rfl, ?_⟩ | refine ⟨by rw [hb1]; rfl, ?_⟩)) (by repeat (first | exact SubL.nil | (apply SubL.cons; (repeat (first | exact At.here | apply At.there))) | exact SubL.refl _ | apply SubL.skip))
  · intro hb1
    repeat (first | refine un (h := ?_) | refine sk (h := ?_) | refine WL.y (hy := pkF) (h := ?_) | refine WL.y (hy := pkT) (h := ?_))
    exact mg (by repeat (first | exact trivial | refine ⟨rfl, ?_⟩ | refine ⟨by rw [hb1]; rfl, ?_⟩)) (by repeat (first | exact SubL.nil | (apply SubL.cons; (repeat (first | exact At.here | apply At.there))) | exact SubL.refl _ | apply SubL.skip))
  refine WL.y (hy := mv) (h := ?_)
  apply brOr 5 18 23 (by exact rfl)
  · intro hb2
    refine un (h := ?_)
    refine WL.y (hy := mv) (h := ?_)
    refine un (h := ?_)
    refine WL.y (hy := (by first | exact fa | exact faE)) (h := ?_)
    refine un (h := ?_)
    refine WL.y (hy := (by first | exact ld | exact ldE)) (h := ?_)
    refine un (h := ?_)
    refine WL.y (hy := eql) (h := ?_)
    refine WL.y (hy := (by first | exact pkT | exact pkF)) (h := ?_)
    exact mg (by repeat (first | exact trivial | refine ⟨rfl, ?_⟩ | refine ⟨by rw [hb2]; rfl, ?_⟩)) (by repeat (first | exact SubL.nil | (apply SubL.cons; (repeat (first | exact At.here | apply At.there))) | exact SubL.refl _ | apply SubL.skip))
  · intro hb2
    repeat (first | refine un (h := ?_) | refine sk (h := ?_) | refine WL.y (hy := pkF) (h := ?_) | refine WL.y (hy := pkT) (h := ?_))
    exact mg (by repeat (first | exact trivial | refine ⟨rfl, ?_⟩ | refine ⟨by rw [hb2]; rfl, ?_⟩)) (by repeat (first | exact SubL.nil | (apply SubL.cons; (repeat (first | exact At.here | apply At.there))) | exact SubL.refl _ | apply SubL.skip))
  refine WL.y (hy := asg) (h := ?_)
  refine nl (h := ?_)
  refine q_seq (h := ?_)
  refine rtn (h := ?_)
  refine q_ret (hR := ?_)
  exact fun w hS => ⟨rfl, hS.sub (by repeat (first | exact SubL.nil | (apply SubL.cons; (repeat (first | exact At.here | apply At.there))) | exact SubL.refl _ | apply SubL.skip))⟩
theorem refChk (f : Fmt) : (!wi f.sets 1 3 || !wi f.games 1 8 || !tieB f f.tie || !tieB f f.ltie || !wi f.to 1 15 || !wi f.lto 1 15 || !wi f.first 0 20 || !wi f.thn 0 20) = !fmtOk f := by
  simp only [fmtOk, Bool.not_and]
theorem C_ref1_Check (f : Fmt) (w : World) : C0 Try.prog 41 [f.val] w (.int .i64 (chkF f)) := by
  refine ⟨en Try.func41 Try.ntmps41 (St.init w) (h := fun F => ?_)⟩
  refine sq (h := ?_)
  refine rg (h := ?_)
  refine bxA (h := fun b0 => ?_)
  refine WL.y (hy := asg) (h := ?_)
  refine nl (h := ?_)
  refine q_seq (h := ?_)
  refine sq (h := ?_)
  refine sq (h := ?_)
  refine rg (h := ?_)
  refine WL.y (hy := (by first | exact fa | exact faE)) (h := ?_)
  refine WL.y (hy := (by first | exact ld | exact ldE)) (h := ?_)
  refine cl0 (hc := fun w hS => C_ref1_within ..) (h := ?_)
  refine WL.y (hy := notB) (h := ?_)
  refine WL.y (hy := mv) (h := ?_)
  apply brOr 5 7 12 (by exact rfl)
  · intro hb0
    refine un (h := ?_)
    refine WL.y (hy := (by first | exact fa | exact faE)) (h := ?_)
    refine un (h := ?_)
    refine WL.y (hy := (by first | exact ld | exact ldE)) (h := ?_)
    refine un (h := ?_)
    refine cl0 (hc := fun w hS => C_ref1_within ..) (h := ?_)
    refine un (h := ?_)
    refine WL.y (hy := notB) (h := ?_)
    refine WL.y (hy := (by first | exact pkT | exact pkF)) (h := ?_)
    exact mg (by repeat (first | exact trivial | refine ⟨rfl, ?_⟩ | refine ⟨by rw [hb0]; rfl, ?_⟩)) (by repeat (first | exact SubL.nil | (apply SubL.cons; (repeat (first | exact At.here | apply At.there))) | exact SubL.refl _ | apply SubL.skip))
  · intro hb0
    repeat (first | refine un (h := ?_) | refine sk (h := ?_) | refine WL.y (hy := pkF) (h := ?_) | refine WL.y (hy := pkT) (h := ?_))
    exact mg (by repeat (first | exact trivial | refine ⟨rfl, ?_⟩ | refine ⟨by rw [hb0]; rfl, ?_⟩)) (by repeat (first | exact SubL.nil | (apply SubL.cons; (repeat (first | exact At.here | apply At.there))) | exact SubL.refl _ | apply SubL.skip))
  refine WL.y (hy := mv) (h := ?_)
  apply brOr 6 13 19 (by exact rfl)
  · intro hb1
    have hg : 1 ≤ f.games ∧ f.games ≤ 8 := by simp only [Bool.or_eq_false_iff, wi_not] at hb1; omega
    refine un (h := ?_)
    refine WL.y (hy := (by first | exact ldA | exact ldEA)) (h := ?_)
    refine un (h := ?_)
    refine WL.y (hy := (by first | exact fa | exact faE)) (h := ?_)
    refine un (h := ?_)
    refine WL.y (hy := (by first | exact ld | exact ldE)) (h := ?_)
    refine un (h := ?_)
    refine cl0 (hc := fun w hS => C_ref1_isTie f f.tie hg w) (h := ?_)
    refine un (h := ?_)
    refine WL.y (hy := notB) (h := ?_)
    refine WL.y (hy := (by first | exact pkT | exact pkF)) (h := ?_)
    exact mg (by repeat (first | exact trivial | refine ⟨rfl, ?_⟩ | refine ⟨by rw [hb1]; rfl, ?_⟩)) (by repeat (first | exact SubL.nil | (apply SubL.cons; (repeat (first | exact At.here | apply At.there))) | exact SubL.refl _ | apply SubL.skip))
  · intro hb1
    repeat (first | refine un (h := ?_) | refine sk (h := ?_) | refine WL.y (hy := pkF) (h := ?_) | refine WL.y (hy := pkT) (h := ?_))
    exact mg (by repeat (first | exact trivial | refine ⟨rfl, ?_⟩ | refine ⟨by rw [hb1]; rfl, ?_⟩)) (by repeat (first | exact SubL.nil | (apply SubL.cons; (repeat (first | exact At.here | apply At.there))) | exact SubL.refl _ | apply SubL.skip))
  refine WL.y (hy := mv) (h := ?_)
  apply brOr 6 20 26 (by exact rfl)
  · intro hb2
    have hg : 1 ≤ f.games ∧ f.games ≤ 8 := by simp only [Bool.or_eq_false_iff, wi_not] at hb2; omega
    refine un (h := ?_)
    refine WL.y (hy := (by first | exact ldA | exact ldEA)) (h := ?_)
    refine un (h := ?_)
    refine WL.y (hy := (by first | exact fa | exact faE)) (h := ?_)
    refine un (h := ?_)
    refine WL.y (hy := (by first | exact ld | exact ldE)) (h := ?_)
    refine un (h := ?_)
    refine cl0 (hc := fun w hS => C_ref1_isTie f f.ltie hg w) (h := ?_)
    refine un (h := ?_)
    refine WL.y (hy := notB) (h := ?_)
    refine WL.y (hy := (by first | exact pkT | exact pkF)) (h := ?_)
    exact mg (by repeat (first | exact trivial | refine ⟨rfl, ?_⟩ | refine ⟨by rw [hb2]; rfl, ?_⟩)) (by repeat (first | exact SubL.nil | (apply SubL.cons; (repeat (first | exact At.here | apply At.there))) | exact SubL.refl _ | apply SubL.skip))
  · intro hb2
    repeat (first | refine un (h := ?_) | refine sk (h := ?_) | refine WL.y (hy := pkF) (h := ?_) | refine WL.y (hy := pkT) (h := ?_))
    exact mg (by repeat (first | exact trivial | refine ⟨rfl, ?_⟩ | refine ⟨by rw [hb2]; rfl, ?_⟩)) (by repeat (first | exact SubL.nil | (apply SubL.cons; (repeat (first | exact At.here | apply At.there))) | exact SubL.refl _ | apply SubL.skip))
  refine WL.y (hy := mv) (h := ?_)
  apply brOr 5 27 32 (by exact rfl)
  · intro hb3
    refine un (h := ?_)
    refine WL.y (hy := (by first | exact fa | exact faE)) (h := ?_)
    refine un (h := ?_)
    refine WL.y (hy := (by first | exact ld | exact ldE)) (h := ?_)
    refine un (h := ?_)
    refine cl0 (hc := fun w hS => C_ref1_within ..) (h := ?_)
    refine un (h := ?_)
    refine WL.y (hy := notB) (h := ?_)
    refine WL.y (hy := (by first | exact pkT | exact pkF)) (h := ?_)
    exact mg (by repeat (first | exact trivial | refine ⟨rfl, ?_⟩ | refine ⟨by rw [hb3]; rfl, ?_⟩)) (by repeat (first | exact SubL.nil | (apply SubL.cons; (repeat (first | exact At.here | apply At.there))) | exact SubL.refl _ | apply SubL.skip))
  · intro hb3
    repeat (first | refine un (h := ?_) | refine sk (h := ?_) | refine WL.y (hy := pkF) (h := ?_) | refine WL.y (hy := pkT) (h := ?_))
    exact mg (by repeat (first | exact trivial | refine ⟨rfl, ?_⟩ | refine ⟨by rw [hb3]; rfl, ?_⟩)) (by repeat (first | exact SubL.nil | (apply SubL.cons; (repeat (first | exact At.here | apply At.there))) | exact SubL.refl _ | apply SubL.skip))
  refine WL.y (hy := mv) (h := ?_)
  apply brOr 5 33 38 (by exact rfl)
  · intro hb4
    refine un (h := ?_)
    refine WL.y (hy := (by first | exact fa | exact faE)) (h := ?_)
    refine un (h := ?_)
    refine WL.y (hy := (by first | exact ld | exact ldE)) (h := ?_)
    refine un (h := ?_)
    refine cl0 (hc := fun w hS => C_ref1_within ..) (h := ?_)
    refine un (h := ?_)
    refine WL.y (hy := notB) (h := ?_)
    refine WL.y (hy := (by first | exact pkT | exact pkF)) (h := ?_)
    exact mg (by repeat (first | exact trivial | refine ⟨rfl, ?_⟩ | refine ⟨by rw [hb4]; rfl, ?_⟩)) (by repeat (first | exact SubL.nil | (apply SubL.cons; (repeat (first | exact At.here | apply At.there))) | exact SubL.refl _ | apply SubL.skip))
  · intro hb4
    repeat (first | refine un (h := ?_) | refine sk (h := ?_) | refine WL.y (hy := pkF) (h := ?_) | refine WL.y (hy := pkT) (h := ?_))
    exact mg (by repeat (first | exact trivial | refine ⟨rfl, ?_⟩ | refine ⟨by rw [hb4]; rfl, ?_⟩)) (by repeat (first | exact SubL.nil | (apply SubL.cons; (repeat (first | exact At.here | apply At.there))) | exact SubL.refl _ | apply SubL.skip))
  refine WL.y (hy := mv) (h := ?_)
  apply brOr 5 39 44 (by exact rfl)
  · intro hb5
    refine un (h := ?_)
    refine WL.y (hy := (by first | exact fa | exact faE)) (h := ?_)
    refine un (h := ?_)
    refine WL.y (hy := (by first | exact ld | exact ldE)) (h := ?_)
    refine un (h := ?_)
    refine cl0 (hc := fun w hS => C_ref1_within ..) (h := ?_)
    refine un (h := ?_)
    refine WL.y (hy := notB) (h := ?_)
    refine WL.y (hy := (by first | exact pkT | exact pkF)) (h := ?_)
    exact mg (by repeat (first | exact trivial | refine ⟨rfl, ?_⟩ | refine ⟨by rw [hb5]; rfl, ?_⟩)) (by repeat (first | exact SubL.nil | (apply SubL.cons; (repeat (first | exact At.here | apply At.there))) | exact SubL.refl _ | apply SubL.skip))
  · intro hb5
    repeat (first | refine un (h := ?_) | refine sk (h := ?_) | refine WL.y (hy := pkF) (h := ?_) | refine WL.y (hy := pkT) (h := ?_))
    exact mg (by repeat (first | exact trivial | refine ⟨rfl, ?_⟩ | refine ⟨by rw [hb5]; rfl, ?_⟩)) (by repeat (first | exact SubL.nil | (apply SubL.cons; (repeat (first | exact At.here | apply At.there))) | exact SubL.refl _ | apply SubL.skip))
  refine WL.y (hy := mv) (h := ?_)
  apply brOr 5 45 50 (by exact rfl)
  · intro hb6
    refine un (h := ?_)
    refine WL.y (hy := (by first | exact fa | exact faE)) (h := ?_)
    refine un (h := ?_)
    refine WL.y (hy := (by first | exact ld | exact ldE)) (h := ?_)
    refine un (h := ?_)
    refine cl0 (hc := fun w hS => C_ref1_within ..) (h := ?_)
    refine un (h := ?_)
    refine WL.y (hy := notB) (h := ?_)
    refine WL.y (hy := (by first | exact pkT | exact pkF)) (h := ?_)
    exact mg (by repeat (first | exact trivial | refine ⟨rfl, ?_⟩ | refine ⟨by rw [hb6]; rfl, ?_⟩)) (by repeat (first | exact SubL.nil | (apply SubL.cons; (repeat (first | exact At.here | apply At.there))) | exact SubL.refl _ | apply SubL.skip))
  · intro hb6
    repeat (first | refine un (h := ?_) | refine sk (h := ?_) | refine WL.y (hy := pkF) (h := ?_) | refine WL.y (hy := pkT) (h := ?_))
    exact mg (by repeat (first | exact trivial | refine ⟨rfl, ?_⟩ | refine ⟨by rw [hb6]; rfl, ?_⟩)) (by repeat (first | exact SubL.nil | (apply SubL.cons; (repeat (first | exact At.here | apply At.there))) | exact SubL.refl _ | apply SubL.skip))
  refine nl (h := ?_)
  refine q_seq (h := ?_)
  refine cd (by exact rfl) (fun h7 => ?_) (fun h7 => ?_)
  · skip
    have hb : fmtOk f = false := by rw [refChk] at h7; simpa using h7
    have hc : chkF f = 10 := by rw [chkF, hb]; rfl
    refine sq (h := ?_)
    refine rg (h := ?_)
    refine WL.y (hy := asg) (h := ?_)
    refine nl (h := ?_)
    refine q_seq (h := ?_)
    refine rtn (h := ?_)
    refine q_then_ret (h := ?_)
    refine q_ret (hR := ?_)
    rw [hc]
    exact fun w hS => ⟨rfl, hS.sub (by repeat (first | exact SubL.nil | (apply SubL.cons; (repeat (first | exact At.here | apply At.there))) | exact SubL.refl _ | apply SubL.skip))⟩
  · skip
    have hb : fmtOk f = true := by rw [refChk] at h7; simpa using h7
    have hc : chkF f = 0 := by rw [chkF, hb]; rfl
    refine skp (h := ?_)
    refine q_seq (h := ?_)
    refine sq (h := ?_)
    refine rg (h := ?_)
    refine WL.y (hy := asg) (h := ?_)
    refine nl (h := ?_)
    refine q_seq (h := ?_)
    refine rtn (h := ?_)
    refine q_ret (hR := ?_)
    rw [hc]
    exact fun w hS => ⟨rfl, hS.sub (by repeat (first | exact SubL.nil | (apply SubL.cons; (repeat (first | exact At.here | apply At.there))) | exact SubL.refl _ | apply SubL.skip))⟩
end Go.Proofs.Ytacaojifempclaa

namespace Go.Proofs.Ytacaojifempclaa
open Go Go.RowKit

def leadsR (p : Pr) (l : Int) : Int := bif decide (l ≤ p.1) && decide (p.2 + 2 ≤ p.1) then 0 else bif decide (l ≤ p.2) && decide (p.1 + 2 ≤ p.2) then 1 else -1
theorem leadsR_eq (p : Pr) (l : Int) : leadsR p l = leadsV p l 2 := by
  unfold leadsR leadsV
  rw [show decide (p.2 + 2 ≤ p.1) = decide ((2 : Int) ≤ p.1 - p.2) from decide_eq_decide.2 (by omega), show decide (p.1 + 2 ≤ p.2) = decide ((2 : Int) ≤ p.2 - p.1) from decide_eq_decide.2 (by omega)]
theorem C_ref1_leads' (p : Pr) (l : Int) (hp : Sm p) (w : World) : C0 Try.prog 53 [pv p, .int .i64 l] w (.int .i64 (leadsR p l)) := by
  obtain ⟨⟨h1, h2⟩, h3, h4⟩ := hp
  refine ⟨en Try.func53 Try.ntmps53 (St.init w) (h := fun F => ?_)⟩
  refine sq (h := ?_)
  refine rg (h := ?_)
  refine bxA (h := fun b0 => ?_)
  refine WL.y (hy := asg) (h := ?_)
  refine nl (h := ?_)
  refine q_seq (h := ?_)
  refine sq (h := ?_)
  refine sq (h := ?_)
  refine rg (h := ?_)
  refine WL.y (hy := (by first | exact fa | exact faE)) (h := ?_)
  refine WL.y (hy := (by first | exact ld | exact ldE)) (h := ?_)
  refine WL.y (hy := mv) (h := ?_)
  refine WL.y (hy := geq) (h := ?_)
  refine WL.y (hy := mv) (h := ?_)
  apply brAnd 7 9 16 (by exact rfl)
  · intro hb0
    refine un (h := ?_)
    refine WL.y (hy := (by first | exact fa | exact faE)) (h := ?_)
    refine un (h := ?_)
    refine WL.y (hy := (by first | exact ld | exact ldE)) (h := ?_)
    refine un (h := ?_)
    refine WL.y (hy := (by first | exact fa | exact faE)) (h := ?_)
    refine un (h := ?_)
    refine WL.y (hy := (by first | exact ld | exact ldE)) (h := ?_)
    refine un (h := ?_)
    refine WL.y (hy := addI) (h := ?_)
    refine un (h := ?_)
    refine WL.y (hy := geq) (h := ?_)
    refine WL.y (hy := (by first | exact pkT | exact pkF)) (h := ?_)
    exact mg (by repeat (first | exact trivial | refine ⟨rfl, ?_⟩ | refine ⟨by rw [hb0]; rfl, ?_⟩)) (by repeat (first | exact SubL.nil | (apply SubL.cons; (repeat (first | exact At.here | apply At.there))) | exact SubL.refl _ | apply SubL.skip))
  · intro hb0
    repeat (first | refine un (h := ?_) | refine sk (h := ?_) | refine WL.y (hy := pkF) (h := ?_) | refine WL.y (hy := pkT) (h := ?_))
    exact mg (by repeat (first | exact trivial | refine ⟨rfl, ?_⟩ | refine ⟨by rw [hb0]; rfl, ?_⟩)) (by repeat (first | exact SubL.nil | (apply SubL.cons; (repeat (first | exact At.here | apply At.there))) | exact SubL.refl _ | apply SubL.skip))
  refine nl (h := ?_)
  refine q_seq (h := ?_)
  refine cd (by exact rfl) (fun h1 => ?_) (fun h1 => ?_)
  · skip
    refine sq (h := ?_)
    refine rg (h := ?_)
    refine WL.y (hy := asg) (h := ?_)
    refine nl (h := ?_)
    refine q_seq (h := ?_)
    refine rtn (h := ?_)
    refine q_then_ret (h := ?_)
    refine q_ret (hR := ?_)
    exact fun w hS => ⟨cdT' (fun x : Int => Ending.returned (Value.int .i64 x)) h1, hS.sub (by repeat (first | exact SubL.nil | (apply SubL.cons; (repeat (first | exact At.here | apply At.there))) | exact SubL.refl _ | apply SubL.skip))⟩
  · skip
    refine skp (h := ?_)
    refine q_seq (h := ?_)
    refine sq (h := ?_)
    refine sq (h := ?_)
    refine rg (h := ?_)
    refine WL.y (hy := (by first | exact fa | exact faE)) (h := ?_)
    refine WL.y (hy := (by first | exact ld | exact ldE)) (h := ?_)
    refine WL.y (hy := mv) (h := ?_)
    refine WL.y (hy := geq) (h := ?_)
    refine WL.y (hy := mv) (h := ?_)
    apply brAnd 7 21 28 (by exact rfl)
    · intro hb2
      refine un (h := ?_)
      refine WL.y (hy := (by first | exact fa | exact faE)) (h := ?_)
      refine un (h := ?_)
      refine WL.y (hy := (by first | exact ld | exact ldE)) (h := ?_)
      refine un (h := ?_)
      refine WL.y (hy := (by first | exact fa | exact faE)) (h := ?_)
      refine un (h := ?_)
      refine WL.y (hy := (by first | exact ld | exact ldE)) (h := ?_)
      refine un (h := ?_)
      refine WL.y (hy := addI) (h := ?_)
      refine un (h := ?_)
      refine WL.y (hy := geq) (h := ?_)
      refine WL.y (hy := (by first | exact pkT | exact pkF)) (h := ?_)
      exact mg (by repeat (first | exact trivial | refine ⟨rfl, ?_⟩ | refine ⟨by rw [hb2]; rfl, ?_⟩)) (by repeat (first | exact SubL.nil | (apply SubL.cons; (repeat (first | exact At.here | apply At.there))) | exact SubL.refl _ | apply SubL.skip))
    · intro hb2
      repeat (first | refine un (h := ?_) | refine sk (h := ?_) | refine WL.y (hy := pkF) (h := ?_) | refine WL.y (hy := pkT) (h := ?_))
      exact mg (by repeat (first | exact trivial | refine ⟨rfl, ?_⟩ | refine ⟨by rw [hb2]; rfl, ?_⟩)) (by repeat (first | exact SubL.nil | (apply SubL.cons; (repeat (first | exact At.here | apply At.there))) | exact SubL.refl _ | apply SubL.skip))
    refine nl (h := ?_)
    refine q_seq (h := ?_)
    refine cd (by exact rfl) (fun h3 => ?_) (fun h3 => ?_)
    · skip
      refine sq (h := ?_)
      refine rg (h := ?_)
      refine WL.y (hy := asg) (h := ?_)
      refine nl (h := ?_)
      refine q_seq (h := ?_)
      refine rtn (h := ?_)
      refine q_then_ret (h := ?_)
      refine q_ret (hR := ?_)
      exact fun w hS => ⟨(cdT' (fun x : Int => Ending.returned (Value.int .i64 x)) h3).trans (cdF' (fun x : Int => Ending.returned (Value.int .i64 x)) h1), hS.sub (by repeat (first | exact SubL.nil | (apply SubL.cons; (repeat (first | exact At.here | apply At.there))) | exact SubL.refl _ | apply SubL.skip))⟩
    · skip
      refine skp (h := ?_)
      refine q_seq (h := ?_)
      refine sq (h := ?_)
      refine rg (h := ?_)
      refine WL.y (hy := asg) (h := ?_)
      refine nl (h := ?_)
      refine q_seq (h := ?_)
      refine rtn (h := ?_)
      refine q_ret (hR := ?_)
      exact fun w hS => ⟨(cdF' (fun x : Int => Ending.returned (Value.int .i64 x)) h3).trans (cdF' (fun x : Int => Ending.returned (Value.int .i64 x)) h1), hS.sub (by repeat (first | exact SubL.nil | (apply SubL.cons; (repeat (first | exact At.here | apply At.there))) | exact SubL.refl _ | apply SubL.skip))⟩
theorem C_ref1_leads (p : Pr) (l : Int) (hp : Sm p) (w : World) : C0 Try.prog 53 [pv p, .int .i64 l] w (.int .i64 (leadsV p l 2)) := by
  rw [← leadsR_eq]; exact C_ref1_leads' p l hp w
theorem C_ref1_plus (p : Pr) (side : Int) (hp : Sm p) (w : World) : C0 Try.prog 54 [pv p, .int .i64 side] w (pv (addV p side)) := by
  obtain ⟨⟨h1, h2⟩, h3, h4⟩ := hp
  refine ⟨en Try.func54 Try.ntmps54 (St.init w) (h := fun F => ?_)⟩
  refine sq (h := ?_)
  refine rg (h := ?_)
  refine bxA (h := fun b0 => ?_)
  refine al (h := fun b1 => ?_)
  refine nl (h := ?_)
  refine q_seq (h := ?_)
  refine sq (h := ?_)
  refine sq (h := ?_)
  refine rg (h := ?_)
  refine WL.y (hy := mv) (h := ?_)
  refine WL.y (hy := eql) (h := ?_)
  refine nl (h := ?_)
  refine q_seq (h := ?_)
  refine cd (by exact rfl) (fun h0 => ?_) (fun h0 => ?_)
  · skip
    refine rg (h := ?_)
    refine WL.y (hy := (by first | exact fa | exact faE)) (h := ?_)
    refine WL.y (hy := (by first | exact ld | exact ldE)) (h := ?_)
    refine WL.y (hy := addI) (h := ?_)
    refine WL.y (hy := (by first | exact fa | exact faE)) (h := ?_)
    first | refine st (h := ?_) | refine stE (h := ?_)
    refine nl (h := ?_)
    refine q_seq (h := ?_)
    refine sq (h := ?_)
    refine rg (h := ?_)
    refine WL.y (hy := (by first | exact ldA | exact ldEA)) (h := ?_)
    first | refine stA (h := ?_) | refine stEA (h := ?_)
    refine nl (h := ?_)
    refine q_seq (h := ?_)
    refine rtn (h := ?_)
    refine q_ret (hR := ?_)
    exact fun w hS => ⟨cdT' (x := (p.1 + 1, p.2)) (fun p : Pr => Ending.returned (pv p)) h0, hS.sub (by repeat (first | exact SubL.nil | (apply SubL.cons; (repeat (first | exact At.here | apply At.there))) | exact SubL.refl _ | apply SubL.skip))⟩
  · skip
    refine rg (h := ?_)
    refine WL.y (hy := (by first | exact fa | exact faE)) (h := ?_)
    refine WL.y (hy := (by first | exact ld | exact ldE)) (h := ?_)
    refine WL.y (hy := addI) (h := ?_)
    refine WL.y (hy := (by first | exact fa | exact faE)) (h := ?_)
    first | refine st (h := ?_) | refine stE (h := ?_)
    refine nl (h := ?_)
    refine q_seq (h := ?_)
    refine sq (h := ?_)
    refine rg (h := ?_)
    refine WL.y (hy := (by first | exact ldA | exact ldEA)) (h := ?_)
    first | refine stA (h := ?_) | refine stEA (h := ?_)
    refine nl (h := ?_)
    refine q_seq (h := ?_)
    refine rtn (h := ?_)
    refine q_ret (hR := ?_)
    exact fun w hS => ⟨cdF' (y := (p.1, p.2 + 1)) (fun p : Pr => Ending.returned (pv p)) h0, hS.sub (by repeat (first | exact SubL.nil | (apply SubL.cons; (repeat (first | exact At.here | apply At.there))) | exact SubL.refl _ | apply SubL.skip))⟩
def wside (p : Pr) : Int := bif decide (p.2 < p.1) then 0 else 1
def wonTo (l : List Pr) : Nat → Pr
  | 0 => (0, 0)
  | k + 1 => match l[k]? with
    | some p => addV (wonTo l k) (wside p)
    | none => wonTo l k
def wonV (l : List Pr) : Pr := wonTo l l.length
theorem wonTo_succ {l : List Pr} {k : Nat} {p : Pr} (h : l[k]? = some p) : wonTo l (k + 1) = addV (wonTo l k) (wside p) := by rw [wonTo, h]
theorem wonTo_bd (l : List Pr) : ∀ k, (0 ≤ (wonTo l k).1 ∧ (wonTo l k).1 ≤ (k : Int)) ∧ 0 ≤ (wonTo l k).2 ∧ (wonTo l k).2 ≤ (k : Int)
  | 0 => by simp [wonTo]
  | k + 1 => by
    have ih := wonTo_bd l k
    rw [wonTo]
    cases l[k]? with
    | none => dsimp only; omega
    | some p => have := addV_bd (side := wside p) ih; simpa using this
structure WZ where
  (k : Nat) (p : Pr)
theorem C_ref1_Won (l : List Pr) (A : Option Addr) (n c : Nat) (w : World) (h : Rd w A 2 n (encP l)) (hn : n ≤ 1000000) : C0 Try.prog 49 [.slice A n c] w (pv (wonV l)) := by
  have hlen : l.length = n := by have := h.len; simpa [encP] using this
  refine ⟨en Try.func49 Try.ntmps49 ((St.init w).share (e := .ro A 2 n (encP l)) h rfl rfl rfl) (h := fun F => ?_)⟩
  refine sq (h := ?_)
  refine rg (h := ?_)
  refine al (h := fun b0 => ?_)
  refine nl (h := ?_)
  refine q_seq (h := ?_)
  refine sq (h := ?_)
  refine rg (h := ?_)
  refine al (h := fun b1 => ?_)
  refine nl (h := ?_)
  refine q_seq (h := ?_)
  refine sq (h := ?_)
  refine sq (h := ?_)
  refine rg (h := ?_)
  refine WL.y (hy := asg) (h := ?_)
  refine nl (h := ?_)
  refine q_seq (h := ?_)
  refine bk (h := ?_)
  refine lp (X := WZ) (I := fun z => z.k ≤ n ∧ z.p = wonTo l z.k) (le := fun z => [(0, .slice A n c), (2, .pointer (some ⟨b0, 0, none⟩)), (3, .pointer (some ⟨b1, 0, none⟩)), (4, .int .i64 z.k)]) (Le := fun z => [.blk b0 26 [.int .i64 0, .int .i64 0], .blk b1 26 [.int .i64 z.p.1, .int .i64 z.p.2], .ro A 2 n (encP l)]) (μ := fun z => n - z.k) ⟨0, (0, 0)⟩ ⟨Nat.zero_le _, rfl⟩ (by repeat (first | exact trivial | refine ⟨rfl, ?_⟩)) (by repeat (first | exact SubL.nil | (apply SubL.cons; (repeat (first | exact At.here | apply At.there))) | exact SubL.refl _ | apply SubL.skip)) (fun z hz => ?_)
  obtain ⟨hzk, hzp⟩ := hz
  refine sq (h := ?_)
  refine sq (h := ?_)
  refine rg (h := ?_)
  refine WL.y (hy := mv) (h := ?_)
  refine WL.y (hy := mv) (h := ?_)
  refine WL.y (hy := lenS) (h := ?_)
  refine WL.y (hy := lss) (h := ?_)
  refine nl (h := ?_)
  refine q_seq (h := ?_)
  refine cd (by exact rfl) (fun h0 => ?_) (fun h0 => ?_)
  · skip
    have hkn : z.k < n := by simp only [decide_eq_true_eq] at h0; omega
    obtain ⟨q, hq⟩ : ∃ q, l[z.k]? = some q := ⟨_, List.getElem?_eq_getElem (by omega)⟩
    have hqe := encP_at hq
    have hst := wonTo_succ hq
    have hbd := wonTo_bd l z.k
    rw [← hzp] at hbd hst
    refine skp (h := ?_)
    refine q_seq (h := ?_)
    refine sq (h := ?_)
    refine bk (h := ?_)
    refine sq (h := ?_)
    refine rgD0 (by kernel_rfl) (h := ?_)
    refine tk 0 (hy := mv) (h := ?_)
    refine tk 1 (hy := mv) (h := ?_)
    refine tk 2 (hy := ix) (h := ?_)
    refine tk 3 (hy := (by first | exact fa | exact faE)) (h := ?_)
    refine tk 4 (hy := ldE (hk := hqe)) (h := ?_)
    refine tk 5 (hy := mv) (h := ?_)
    refine tk 6 (hy := mv) (h := ?_)
    refine tk 7 (hy := ix) (h := ?_)
    refine tk 8 (hy := (by first | exact fa | exact faE)) (h := ?_)
    refine tk 9 (hy := ldE (hk := hqe)) (h := ?_)
    refine tk 10 (hy := gtr) (h := ?_)
    refine dn (h := ?_)
    refine q_seq (h := ?_)
    refine cd (by exact rfl) (fun h1 => ?_) (fun h1 => ?_)
    · skip
      have hws : addV z.p (wside q) = (z.p.1 + 1, z.p.2) := by unfold wside; rw [h1]; rfl
      refine rg (h := ?_)
      refine WL.y (hy := (by first | exact fa | exact faE)) (h := ?_)
      refine WL.y (hy := (by first | exact ld | exact ldE)) (h := ?_)
      refine WL.y (hy := addI) (h := ?_)
      refine WL.y (hy := (by first | exact fa | exact faE)) (h := ?_)
      first | refine st (h := ?_) | refine stE (h := ?_)
      refine nl (h := ?_)
      refine q_blk_norm (h := ?_)
      refine q_seq (h := ?_)
      refine rg (h := ?_)
      refine WL.y (hy := mv) (h := ?_)
      refine WL.y (hy := addI) (h := ?_)
      refine WL.y (hy := asg) (h := ?_)
      refine nl (h := ?_)
      refine rn (x := z) ⟨z.k + 1, addV z.p (wside q)⟩ ⟨by dsimp only; omega, by rw [hst]⟩ (by dsimp only; omega) (by repeat (first | exact trivial | refine ⟨rfl, ?_⟩)) (by (try dsimp only); rw [hws]; repeat (first | exact SubL.nil | (apply SubL.cons; (repeat (first | exact At.here | apply At.there)))))
    · skip
      have hws : addV z.p (wside q) = (z.p.1, z.p.2 + 1) := by unfold wside; rw [h1]; rfl
      refine rg (h := ?_)
      refine WL.y (hy := (by first | exact fa | exact faE)) (h := ?_)
      refine WL.y (hy := (by first | exact ld | exact ldE)) (h := ?_)
      refine WL.y (hy := addI) (h := ?_)
      refine WL.y (hy := (by first | exact fa | exact faE)) (h := ?_)
      first | refine st (h := ?_) | refine stE (h := ?_)
      refine nl (h := ?_)
      refine q_blk_norm (h := ?_)
      refine q_seq (h := ?_)
      refine rg (h := ?_)
      refine WL.y (hy := mv) (h := ?_)
      refine WL.y (hy := addI) (h := ?_)
      refine WL.y (hy := asg) (h := ?_)
      refine nl (h := ?_)
      refine rn (x := z) ⟨z.k + 1, addV z.p (wside q)⟩ ⟨by dsimp only; omega, by rw [hst]⟩ (by dsimp only; omega) (by repeat (first | exact trivial | refine ⟨rfl, ?_⟩)) (by (try dsimp only); rw [hws]; repeat (first | exact SubL.nil | (apply SubL.cons; (repeat (first | exact At.here | apply At.there)))))
  · skip
    have hkn : z.k = n := by simp only [decide_eq_false_iff_not] at h0; omega
    refine et (h := ?_)
    refine q_then_exit (h := ?_)
    refine q_then_exit (h := ?_)
    refine q_blk_hit (h := ?_)
    refine q_seq (h := ?_)
    refine sq (h := ?_)
    refine rg (h := ?_)
    refine WL.y (hy := (by first | exact ldA | exact ldEA)) (h := ?_)
    first | refine stA (h := ?_) | refine stEA (h := ?_)
    refine nl (h := ?_)
    refine q_seq (h := ?_)
    refine rtn (h := ?_)
    refine q_ret (hR := ?_)
    exact fun w hS => ⟨by rw [wonV, hlen, ← hkn, ← hzp]; rfl, hS.sub (by repeat (first | exact SubL.nil | (apply SubL.cons; (repeat (first | exact At.here | apply At.there))) | exact SubL.refl _ | apply SubL.skip))⟩

theorem C_ref1_IsLast (f : Fmt) (won : Pr) (hf : f.Ok) (w : World) : C0 Try.prog 90 [f.val, pv won] w (.bool (decide (won.1 = f.sets - 1) && decide (won.2 = f.sets - 1))) := by
  have h1 := hf.s0
  have h2 := hf.s1
  refine ⟨en Try.func90 Try.ntmps90 (St.init w) (h := fun F => ?_)⟩
  refine sq (h := ?_)
  refine rg (h := ?_)
  refine bxA (h := fun b0 => ?_)
  refine bxA (h := fun b1 => ?_)
  refine WL.y (hy := asg) (h := ?_)
  refine nl (h := ?_)
  refine q_seq (h := ?_)
  refine sq (h := ?_)
  refine rg (h := ?_)
  refine WL.y (hy := (by first | exact fa | exact faE)) (h := ?_)
  refine WL.y (hy := (by first | exact ld | exact ldE)) (h := ?_)
  refine WL.y (hy := (by first | exact fa | exact faE)) (h := ?_)
  refine WL.y (hy := (by first | exact ld | exact ldE)) (h := ?_)
  refine WL.y (hy := subI) (h := ?_)
  refine WL.y (hy := eql) (h := ?_)
  refine WL.y (hy := mv) (h := ?_)
  apply brAnd 7 11 18 (by exact rfl)
  · intro hb0
    refine un (h := ?_)
    refine WL.y (hy := (by first | exact fa | exact faE)) (h := ?_)
    refine un (h := ?_)
    refine WL.y (hy := (by first | exact ld | exact ldE)) (h := ?_)
    refine un (h := ?_)
    refine WL.y (hy := (by first | exact fa | exact faE)) (h := ?_)
    refine un (h := ?_)
    refine WL.y (hy := (by first | exact ld | exact ldE)) (h := ?_)
    refine un (h := ?_)
    refine WL.y (hy := subI) (h := ?_)
    refine un (h := ?_)
    refine WL.y (hy := eql) (h := ?_)
    refine WL.y (hy := (by first | exact pkT | exact pkF)) (h := ?_)
    exact mg (by repeat (first | exact trivial | refine ⟨rfl, ?_⟩ | refine ⟨by rw [hb0]; rfl, ?_⟩)) (by repeat (first | exact SubL.nil | (apply SubL.cons; (repeat (first | exact At.here | apply At.there))) | exact SubL.refl _ | apply SubL.skip))
  · intro hb0
    repeat (first | refine un (h := ?_) | refine sk (h := ?_) | refine WL.y (hy := pkF) (h := ?_) | refine WL.y (hy := pkT) (h := ?_))
    exact mg (by repeat (first | exact trivial | refine ⟨rfl, ?_⟩ | refine ⟨by rw [hb0]; rfl, ?_⟩)) (by repeat (first | exact SubL.nil | (apply SubL.cons; (repeat (first | exact At.here | apply At.there))) | exact SubL.refl _ | apply SubL.skip))
  refine WL.y (hy := asg) (h := ?_)
  refine nl (h := ?_)
  refine q_seq (h := ?_)
  refine rtn (h := ?_)
  refine q_ret (hR := ?_)
  exact fun w hS => ⟨rfl, hS.sub (by repeat (first | exact SubL.nil | (apply SubL.cons; (repeat (first | exact At.here | apply At.there))) | exact SubL.refl _ | apply SubL.skip))⟩
def ruleV (f : Fmt) (last : Bool) : Pr := bif last then (f.ltie, f.lto) else (f.tie, f.to)
theorem C_ref1_Rule (f : Fmt) (last : Bool) (w : World) : C0 Try.prog 94 [f.val, .bool last] w (.tuple #[.int .i64 (ruleV f last).1, .int .i64 (ruleV f last).2]) := by
  refine ⟨en Try.func94 Try.ntmps94 (St.init w) (h := fun F => ?_)⟩
  refine sq (h := ?_)
  refine rg (h := ?_)
  refine bxA (h := fun b0 => ?_)
  refine WL.y (hy := asg) (h := ?_)
  refine WL.y (hy := asg) (h := ?_)
  refine nl (h := ?_)
  refine q_seq (h := ?_)
  refine sq (h := ?_)
  refine sq (h := ?_)
  refine rg (h := ?_)
  refine WL.y (hy := mv) (h := ?_)
  refine nl (h := ?_)
  refine q_seq (h := ?_)
  refine cd (by exact rfl) (fun h0 => ?_) (fun h0 => ?_)
  · skip
    subst h0
    refine sq (h := ?_)
    refine rgD0 (by kernel_rfl) (h := ?_)
    refine tk 0 (hy := (by first | exact fa | exact faE)) (h := ?_)
    refine tk 1 (hy := (by first | exact ld | exact ldE)) (h := ?_)
    refine tk 2 (hy := (by first | exact fa | exact faE)) (h := ?_)
    refine tk 3 (hy := (by first | exact ld | exact ldE)) (h := ?_)
    refine tk 4 (hy := asg) (h := ?_)
    refine tk 5 (hy := asg) (h := ?_)
    refine dn (h := ?_)
    refine q_seq (h := ?_)
    refine rtn (h := ?_)
    refine q_then_ret (h := ?_)
    refine q_ret (hR := ?_)
    exact fun w hS => ⟨rfl, hS.sub (by repeat (first | exact SubL.nil | (apply SubL.cons; (repeat (first | exact At.here | apply At.there))) | exact SubL.refl _ | apply SubL.skip))⟩
  · skip
    subst h0
    refine skp (h := ?_)
    refine q_seq (h := ?_)
    refine sq (h := ?_)
    refine rgD0 (by kernel_rfl) (h := ?_)
    refine tk 0 (hy := (by first | exact fa | exact faE)) (h := ?_)
    refine tk 1 (hy := (by first | exact ld | exact ldE)) (h := ?_)
    refine tk 2 (hy := (by first | exact fa | exact faE)) (h := ?_)
    refine tk 3 (hy := (by first | exact ld | exact ldE)) (h := ?_)
    refine tk 4 (hy := asg) (h := ?_)
    refine tk 5 (hy := asg) (h := ?_)
    refine dn (h := ?_)
    refine q_seq (h := ?_)
    refine rtn (h := ?_)
    refine q_ret (hR := ?_)
    exact fun w hS => ⟨rfl, hS.sub (by repeat (first | exact SubL.nil | (apply SubL.cons; (repeat (first | exact At.here | apply At.there))) | exact SubL.refl _ | apply SubL.skip))⟩
theorem rule_set (f : Fmt) (won : Pr) : ruleV f (decide (won.1 = f.sets - 1) && decide (won.2 = f.sets - 1)) = setV f won := rfl
def tiedV (f : Fmt) (l : List Pr) (g : Pr) : Bool := decide (0 ≤ (setV f (wonV l)).1) && decide (g.1 = (setV f (wonV l)).1) && decide (g.2 = (setV f (wonV l)).1)
theorem C_ref1_tied (f : Fmt) (b : Brd) (A : Option Addr) (n c : Nat) (hf : f.Ok) (w : World) (h : Rd w A 2 n (encP b.st)) (hn : n ≤ 1000000) : C0 Try.prog 52 [f.val, b.val A n c] w (.tuple #[.bool (tiedV f b.st b.g), .int .i64 (setV f (wonV b.st)).2]) := by
  refine ⟨en Try.func52 Try.ntmps52 ((St.init w).share (e := .ro A 2 n (encP b.st)) h rfl rfl rfl) (h := fun F => ?_)⟩
  refine sq (h := ?_)
  refine rg (h := ?_)
  refine bxA (h := fun b0 => ?_)
  refine bxA (h := fun b1 => ?_)
  refine WL.y (hy := asg) (h := ?_)
  refine WL.y (hy := asg) (h := ?_)
  refine nl (h := ?_)
  refine q_seq (h := ?_)
  refine sq (h := ?_)
  refine rgD0 (by kernel_rfl) (h := ?_)
  refine tk 0 (hy := (by first | exact ldA | exact ldEA)) (h := ?_)
  refine tk 1 (hy := (by first | exact ldA | exact ldEA)) (h := ?_)
  refine tk 2 (hy := (by first | exact fa | exact faE)) (h := ?_)
  refine tk 3 (hy := (by first | exact ld | exact ldE)) (h := ?_)
  refine one 4 (h := ?_)
  refine cl0 (hc := fun w hS => C_ref1_Won b.st A n c w (hS.get (by repeat (first | exact Rds.ro | exact Rds.own | apply Rds.there))) hn) (h := ?_)
  refine nx (h := ?_)
  refine one 5 (h := ?_)
  refine cl0 (hc := fun w hS => C_ref1_IsLast _ _ (by assumption) w) (h := ?_)
  refine nx (h := ?_)
  refine one 6 (h := ?_)
  refine cl0 (hc := fun w hS => C_ref1_Rule f _ w) (h := ?_)
  rw [rule_set]
  refine nx (h := ?_)
  refine tk 7 (hy := mv) (h := ?_)
  refine tk 8 (hy := ex) (h := ?_)
  refine tk 9 (hy := ex) (h := ?_)
  refine tk 10 (hy := asg) (h := ?_)
  refine tk 11 (hy := asg) (h := ?_)
  refine dn (h := ?_)
  refine q_seq (h := ?_)
  refine sq (h := ?_)
  refine rg (h := ?_)
  refine WL.y (hy := mv) (h := ?_)
  refine WL.y (hy := geq) (h := ?_)
  refine WL.y (hy := mv) (h := ?_)
  apply brAnd 6 20 26 (by exact rfl)
  · intro hb0
    refine un (h := ?_)
    refine WL.y (hy := (by first | exact fa | exact faE)) (h := ?_)
    refine un (h := ?_)
    refine WL.y (hy := (by first | exact fa | exact faE)) (h := ?_)
    refine un (h := ?_)
    refine WL.y (hy := (by first | exact ld | exact ldE)) (h := ?_)
    refine un (h := ?_)
    refine WL.y (hy := mv) (h := ?_)
    refine un (h := ?_)
    refine WL.y (hy := eql) (h := ?_)
    refine WL.y (hy := (by first | exact pkT | exact pkF)) (h := ?_)
    exact mg (by repeat (first | exact trivial | refine ⟨rfl, ?_⟩ | refine ⟨by rw [hb0]; rfl, ?_⟩)) (by repeat (first | exact SubL.nil | (apply SubL.cons; (repeat (first | exact At.here | apply At.there))) | exact SubL.refl _ | apply SubL.skip))
  · intro hb0
    repeat (first | refine un (h := ?_) | refine sk (h := ?_) | refine WL.y (hy := pkF) (h := ?_) | refine WL.y (hy := pkT) (h := ?_))
    exact mg (by repeat (first | exact trivial | refine ⟨rfl, ?_⟩ | refine ⟨by rw [hb0]; rfl, ?_⟩)) (by repeat (first | exact SubL.nil | (apply SubL.cons; (repeat (first | exact At.here | apply At.there))) | exact SubL.refl _ | apply SubL.skip))
  refine WL.y (hy := mv) (h := ?_)
  apply brAnd 6 27 33 (by exact rfl)
  · intro hb1
    refine un (h := ?_)
    refine WL.y (hy := (by first | exact fa | exact faE)) (h := ?_)
    refine un (h := ?_)
    refine WL.y (hy := (by first | exact fa | exact faE)) (h := ?_)
    refine un (h := ?_)
    refine WL.y (hy := (by first | exact ld | exact ldE)) (h := ?_)
    refine un (h := ?_)
    refine WL.y (hy := mv) (h := ?_)
    refine un (h := ?_)
    refine WL.y (hy := eql) (h := ?_)
    refine WL.y (hy := (by first | exact pkT | exact pkF)) (h := ?_)
    exact mg (by repeat (first | exact trivial | refine ⟨rfl, ?_⟩ | refine ⟨by rw [hb1]; rfl, ?_⟩)) (by repeat (first | exact SubL.nil | (apply SubL.cons; (repeat (first | exact At.here | apply At.there))) | exact SubL.refl _ | apply SubL.skip))
  · intro hb1
    repeat (first | refine un (h := ?_) | refine sk (h := ?_) | refine WL.y (hy := pkF) (h := ?_) | refine WL.y (hy := pkT) (h := ?_))
    exact mg (by repeat (first | exact trivial | refine ⟨rfl, ?_⟩ | refine ⟨by rw [hb1]; rfl, ?_⟩)) (by repeat (first | exact SubL.nil | (apply SubL.cons; (repeat (first | exact At.here | apply At.there))) | exact SubL.refl _ | apply SubL.skip))
  refine WL.y (hy := mv) (h := ?_)
  refine WL.y (hy := asg) (h := ?_)
  refine WL.y (hy := asg) (h := ?_)
  refine nl (h := ?_)
  refine q_seq (h := ?_)
  refine rtn (h := ?_)
  refine q_ret (hR := ?_)
  exact fun w hS => ⟨rfl, hS.sub (by repeat (first | exact SubL.nil | (apply SubL.cons; (repeat (first | exact At.here | apply At.there))) | exact SubL.refl _ | apply SubL.skip))⟩

end Go.Proofs.Ytacaojifempclaa

namespace Go.Proofs.Ytacaojifempclaa
open Go Go.RowKit

structure IBZ where
  (k : Nat)
def allR1 (b : Brd) : List Pr := b.g :: b.p :: b.st
theorem brd_all (b : Brd) : (b.all.any fun p => !fitP p) = ((allR1 b).any fun p => !fitP p) := by
  unfold Brd.all allR1
  simp only [List.any_append, List.any_cons, List.any_nil, Bool.or_false]
  cases b.st.any fun p => !fitP p <;> cases !fitP b.g <;> cases !fitP b.p <;> rfl
set_option maxRecDepth 100000 in
theorem C_ref1_isBoard (b : Brd) (A : Option Addr) (n c : Nat) (w : World) (h : Rd w A 2 n (encP b.st)) (hn : n ≤ 1000) : C0 Try.prog 42 [b.val A n c] w (.bool (brdOk b)) := by
  have hlen : b.st.length = n := by have := h.len; simpa [encP] using this
  have hal : (allR1 b).length = 2 + n := by simp [allR1, hlen]; omega
  have hen : encP (allR1 b) = [[.int .i64 b.g.1, .int .i64 b.g.2], [.int .i64 b.p.1, .int .i64 b.p.2]] ++ encP b.st := by simp [encP, allR1]
  refine ⟨en Try.func42 Try.ntmps42 ((St.init w).share (e := .ro A 2 n (encP b.st)) h rfl rfl rfl) (h := fun F => ?_)⟩
  refine sq (h := ?_)
  refine rg (h := ?_)
  refine bxA (h := fun b0 => ?_)
  refine WL.y (hy := asg) (h := ?_)
  refine nl (h := ?_)
  refine q_seq (h := ?_)
  refine sq (h := ?_)
  refine rg (h := ?_)
  refine WL.y (hy := (by first | exact fa | exact faE)) (h := ?_)
  refine WL.y (hy := (by first | exact ldA | exact ldEA)) (h := ?_)
  refine WL.y (hy := (by first | exact fa | exact faE)) (h := ?_)
  refine WL.y (hy := (by first | exact ldA | exact ldEA)) (h := ?_)
  refine bs (h := fun b1 => ?_)
  refine WL.y (hy := (by first | exact fa | exact faE)) (h := ?_)
  refine WL.y (hy := (by first | exact ld | exact ldE)) (h := ?_)
  first | refine ap (h := fun A1 c1 => ?_) | refine ap0 (h := fun A1 c1 => ?_)
  refine WL.y (hy := asg) (h := ?_)
  rw [← hen]
  refine nl (h := ?_)
  refine q_seq (h := ?_)
  refine sq (h := ?_)
  refine sq (h := ?_)
  refine rg (h := ?_)
  refine WL.y (hy := asg) (h := ?_)
  refine nl (h := ?_)
  refine q_seq (h := ?_)
  refine bk (h := ?_)
  refine lp (X := IBZ) (I := fun z => z.k ≤ 2 + n ∧ ∀ i, i < z.k → ∀ q, (allR1 b)[i]? = some q → fitP q = true) (le := fun z => [(1, .pointer (some ⟨b0, 0, none⟩)), (3, .slice A1 (2 + n) c1), (4, .int .i64 z.k)]) (Le := fun _ => [.own A1 c1 26 2 (2 + n) (encP (allR1 b)), .blk b0 28 (b.cells A n c)]) (μ := fun z => 2 + n - z.k) ⟨0⟩ ⟨Nat.zero_le _, fun i hi => by cases hi⟩ (by repeat (first | exact trivial | refine ⟨rfl, ?_⟩)) (by repeat (first | exact SubL.nil | (apply SubL.cons; (repeat (first | exact At.here | apply At.there))) | exact SubL.refl _ | apply SubL.skip)) (fun z hz => ?_)
  obtain ⟨hz1, hz2⟩ := hz
  refine sq (h := ?_)
  refine sq (h := ?_)
  refine rg (h := ?_)
  refine WL.y (hy := mv) (h := ?_)
  refine WL.y (hy := mv) (h := ?_)
  refine WL.y (hy := lenS) (h := ?_)
  refine WL.y (hy := lss) (h := ?_)
  refine nl (h := ?_)
  refine q_seq (h := ?_)
  refine cd (by exact rfl) (fun h0 => ?_) (fun h0 => ?_)
  · skip
    have hkn : z.k < 2 + n := by simp only [decide_eq_true_eq] at h0; omega
    obtain ⟨q, hq⟩ : ∃ q, (allR1 b)[z.k]? = some q := ⟨_, List.getElem?_eq_getElem (by omega)⟩
    have hqe := encP_at hq
    refine skp (h := ?_)
    refine q_seq (h := ?_)
    refine sq (h := ?_)
    refine bk (h := ?_)
    refine sq (h := ?_)
    refine rg (h := ?_)
    refine WL.y (hy := mv) (h := ?_)
    refine WL.y (hy := mv) (h := ?_)
    refine WL.y (hy := ix) (h := ?_)
    refine WL.y (hy := (by first | exact fa | exact faE)) (h := ?_)
    refine WL.y (hy := ldE (hk := hqe)) (h := ?_)
    refine cl0 (hc := fun w hS => C_ref1_within ..) (h := ?_)
    refine WL.y (hy := notB) (h := ?_)
    refine WL.y (hy := mv) (h := ?_)
    apply brOr 8 26 34 (by exact rfl)
    · intro hb1
      refine un (h := ?_)
      refine WL.y (hy := mv) (h := ?_)
      refine un (h := ?_)
      refine WL.y (hy := mv) (h := ?_)
      refine un (h := ?_)
      refine WL.y (hy := ix) (h := ?_)
      refine un (h := ?_)
      refine WL.y (hy := (by first | exact fa | exact faE)) (h := ?_)
      refine un (h := ?_)
      refine WL.y (hy := ldE (hk := hqe)) (h := ?_)
      refine un (h := ?_)
      refine cl0 (hc := fun w hS => C_ref1_within ..) (h := ?_)
      refine un (h := ?_)
      refine WL.y (hy := notB) (h := ?_)
      refine WL.y (hy := (by first | exact pkT | exact pkF)) (h := ?_)
      exact mg (by repeat (first | exact trivial | refine ⟨rfl, ?_⟩ | refine ⟨by rw [hb1]; rfl, ?_⟩)) (by repeat (first | exact SubL.nil | (apply SubL.cons; (repeat (first | exact At.here | apply At.there))) | exact SubL.refl _ | apply SubL.skip))
    · intro hb1
      repeat (first | refine un (h := ?_) | refine sk (h := ?_) | refine WL.y (hy := pkF) (h := ?_) | refine WL.y (hy := pkT) (h := ?_))
      exact mg (by repeat (first | exact trivial | refine ⟨rfl, ?_⟩ | refine ⟨by rw [hb1]; rfl, ?_⟩)) (by repeat (first | exact SubL.nil | (apply SubL.cons; (repeat (first | exact At.here | apply At.there))) | exact SubL.refl _ | apply SubL.skip))
    refine nl (h := ?_)
    refine q_seq (h := ?_)
    refine cd (by exact rfl) (fun h2 => ?_) (fun h2 => ?_)
    · skip
      have hE : brdOk b = false := by
        rw [brdOk, brd_all, show ((allR1 b).any fun p => !fitP p) = true from List.any_eq_true.2 ⟨q, List.mem_of_getElem? hq, by rw [fitP, Bool.not_and]; exact h2⟩]
        simp
      refine sq (h := ?_)
      refine rg (h := ?_)
      refine WL.y (hy := asg) (h := ?_)
      refine nl (h := ?_)
      refine q_seq (h := ?_)
      refine rtn (h := ?_)
      refine q_blk_ret (h := ?_)
      refine q_then_ret (h := ?_)
      refine q_then_ret (h := ?_)
      refine q_blk_ret (h := ?_)
      refine q_then_ret (h := ?_)
      refine q_ret (hR := ?_)
      rw [hE]
      exact fun w hS => ⟨rfl, hS.sub (by repeat (first | exact SubL.nil | (apply SubL.cons; (repeat (first | exact At.here | apply At.there))) | exact SubL.refl _ | apply SubL.skip))⟩
    · skip
      have hfq : fitP q = true := by rw [← Bool.not_eq_false', fitP, Bool.not_and]; exact h2
      refine skp (h := ?_)
      refine q_blk_norm (h := ?_)
      refine q_seq (h := ?_)
      refine rg (h := ?_)
      refine WL.y (hy := mv) (h := ?_)
      refine WL.y (hy := addI) (h := ?_)
      refine WL.y (hy := asg) (h := ?_)
      refine nl (h := ?_)
      refine rn (x := z) ⟨z.k + 1⟩ ⟨by dsimp only; omega, fun i hi q' hq' => by
        dsimp only at hi
        by_cases e : i = z.k
        · subst e
          rw [hq] at hq'
          rw [← Option.some.inj hq']; exact hfq
        · exact hz2 i (by omega) q' hq'⟩ (by dsimp only; omega) (by repeat (first | exact trivial | refine ⟨rfl, ?_⟩)) (by repeat (first | exact SubL.nil | (apply SubL.cons; (repeat (first | exact At.here | apply At.there))) | exact SubL.refl _ | apply SubL.skip))
  · skip
    have hkn : z.k = 2 + n := by simp only [decide_eq_false_iff_not] at h0; omega
    have hE : brdOk b = decide ((n : Int) ≤ 5) := by
      rw [brdOk, brd_all, show ((allR1 b).any fun p => !fitP p) = false from ?_, hlen]
      · simp
      · rw [List.any_eq_false]
        intro x hx
        obtain ⟨k, hk, e⟩ := List.getElem_of_mem hx
        have := hz2 k (by omega) x (by rw [List.getElem?_eq_getElem hk, e])
        rw [this]; simp
    refine et (h := ?_)
    refine q_then_exit (h := ?_)
    refine q_then_exit (h := ?_)
    refine q_blk_hit (h := ?_)
    refine q_seq (h := ?_)
    refine sq (h := ?_)
    refine rg (h := ?_)
    refine WL.y (hy := (by first | exact fa | exact faE)) (h := ?_)
    refine WL.y (hy := (by first | exact ld | exact ldE)) (h := ?_)
    refine WL.y (hy := lenS) (h := ?_)
    refine WL.y (hy := leq) (h := ?_)
    refine WL.y (hy := asg) (h := ?_)
    refine nl (h := ?_)
    refine q_seq (h := ?_)
    refine rtn (h := ?_)
    refine q_ret (hR := ?_)
    rw [hE]
    exact fun w hS => ⟨rfl, hS.sub (by repeat (first | exact SubL.nil | (apply SubL.cons; (repeat (first | exact At.here | apply At.there))) | exact SubL.refl _ | apply SubL.skip))⟩

def arePts (f : Fmt) (tie : Bool) (to : Int) (p : Pr) : Bool := bif !tie && f.noAd then decide (p.1 < 4) && decide (p.2 < 4) else decide (max p.1 p.2 < (bif tie then to else 4)) || decide (max p.1 p.2 - min p.1 p.2 ≤ 1)
theorem C_ArePoints (f : Fmt) (tie : Bool) (to : Int) (p : Pr) (hp : (0 ≤ p.1 ∧ p.1 ≤ 1000) ∧ 0 ≤ p.2 ∧ p.2 ≤ 1000) (w : World) : C0 Try.prog 91 [f.val, .bool tie, .int .i64 to, pv p] w (.bool (arePts f tie to p)) := by
  refine ⟨en Try.func91 Try.ntmps91 (St.init w) (h := fun F => ?_)⟩
  refine sq (h := ?_)
  refine rg (h := ?_)
  refine bxA (h := fun b0 => ?_)
  refine bxA (h := fun b1 => ?_)
  refine WL.y (hy := asg) (h := ?_)
  refine nl (h := ?_)
  refine q_seq (h := ?_)
  refine sq (h := ?_)
  refine rg (h := ?_)
  refine WL.y (hy := asg) (h := ?_)
  refine nl (h := ?_)
  refine q_seq (h := ?_)
  refine ct (X := Unit) (fun _ => True) (fun _ => [(1, .bool tie), (4, .pointer (some ⟨b0, 0, none⟩)), (7, .pointer (some ⟨b1, 0, none⟩)), (9, .int .i64 (bif tie then to else 4))]) (fun _ => [.blk b0 23 f.cells, .blk b1 26 [.int .i64 p.1, .int .i64 p.2]]) (h1 := ?_) (h2 := ?_)
  · skip
    refine sq (h := ?_)
    refine rg (h := ?_)
    refine WL.y (hy := mv) (h := ?_)
    refine nl (h := ?_)
    refine q_seq (h := ?_)
    refine cd (by exact rfl) (fun h0 => ?_) (fun h0 => ?_)
    · skip
      refine rg (h := ?_)
      refine WL.y (hy := mv) (h := ?_)
      refine WL.y (hy := asg) (h := ?_)
      refine nl (h := ?_)
      subst h0
      exact ctn () trivial (by repeat (first | exact trivial | refine ⟨rfl, ?_⟩)) (by repeat (first | exact SubL.nil | (apply SubL.cons; (repeat (first | exact At.here | apply At.there))) | exact SubL.refl _ | apply SubL.skip))
    · skip
      refine skp (h := ?_)
      subst h0
      exact ctn () trivial (by repeat (first | exact trivial | refine ⟨rfl, ?_⟩)) (by repeat (first | exact SubL.nil | (apply SubL.cons; (repeat (first | exact At.here | apply At.there))) | exact SubL.refl _ | apply SubL.skip))
  rintro ⟨⟩ -
  refine sq (h := ?_)
  refine sq (h := ?_)
  refine rg (h := ?_)
  refine WL.y (hy := mv) (h := ?_)
  refine WL.y (hy := notB) (h := ?_)
  refine WL.y (hy := mv) (h := ?_)
  apply brAnd 3 14 17 (by exact rfl)
  · intro hb1
    refine un (h := ?_)
    refine WL.y (hy := (by first | exact fa | exact faE)) (h := ?_)
    refine un (h := ?_)
    refine WL.y (hy := (by first | exact ld | exact ldE)) (h := ?_)
    refine WL.y (hy := (by first | exact pkT | exact pkF)) (h := ?_)
    exact mg (by repeat (first | exact trivial | refine ⟨rfl, ?_⟩ | refine ⟨by rw [hb1]; rfl, ?_⟩)) (by repeat (first | exact SubL.nil | (apply SubL.cons; (repeat (first | exact At.here | apply At.there))) | exact SubL.refl _ | apply SubL.skip))
  · intro hb1
    repeat (first | refine un (h := ?_) | refine sk (h := ?_) | refine WL.y (hy := pkF) (h := ?_) | refine WL.y (hy := pkT) (h := ?_))
    exact mg (by repeat (first | exact trivial | refine ⟨rfl, ?_⟩ | refine ⟨by rw [hb1]; rfl, ?_⟩)) (by repeat (first | exact SubL.nil | (apply SubL.cons; (repeat (first | exact At.here | apply At.there))) | exact SubL.refl _ | apply SubL.skip))
  refine nl (h := ?_)
  refine q_seq (h := ?_)
  refine cd (by exact rfl) (fun h2 => ?_) (fun h2 => ?_)
  · skip
    have hc := h2
    refine sq (h := ?_)
    refine rg (h := ?_)
    refine WL.y (hy := (by first | exact fa | exact faE)) (h := ?_)
    refine WL.y (hy := (by first | exact ld | exact ldE)) (h := ?_)
    refine WL.y (hy := lss) (h := ?_)
    refine WL.y (hy := mv) (h := ?_)
    apply brAnd 4 21 25 (by exact rfl)
    · intro hb3
      refine un (h := ?_)
      refine WL.y (hy := (by first | exact fa | exact faE)) (h := ?_)
      refine un (h := ?_)
      refine WL.y (hy := (by first | exact ld | exact ldE)) (h := ?_)
      refine un (h := ?_)
      refine WL.y (hy := lss) (h := ?_)
      refine WL.y (hy := (by first | exact pkT | exact pkF)) (h := ?_)
      exact mg (by repeat (first | exact trivial | refine ⟨rfl, ?_⟩ | refine ⟨by rw [hb3]; rfl, ?_⟩)) (by repeat (first | exact SubL.nil | (apply SubL.cons; (repeat (first | exact At.here | apply At.there))) | exact SubL.refl _ | apply SubL.skip))
    · intro hb3
      repeat (first | refine un (h := ?_) | refine sk (h := ?_) | refine WL.y (hy := pkF) (h := ?_) | refine WL.y (hy := pkT) (h := ?_))
      exact mg (by repeat (first | exact trivial | refine ⟨rfl, ?_⟩ | refine ⟨by rw [hb3]; rfl, ?_⟩)) (by repeat (first | exact SubL.nil | (apply SubL.cons; (repeat (first | exact At.here | apply At.there))) | exact SubL.refl _ | apply SubL.skip))
    refine WL.y (hy := asg) (h := ?_)
    refine nl (h := ?_)
    refine q_seq (h := ?_)
    refine rtn (h := ?_)
    refine q_then_ret (h := ?_)
    refine q_ret (hR := ?_)
    exact fun w hS => ⟨by unfold arePts; rw [hc]; rfl, hS.sub (by repeat (first | exact SubL.nil | (apply SubL.cons; (repeat (first | exact At.here | apply At.there))) | exact SubL.refl _ | apply SubL.skip))⟩
  · skip
    have hc := h2
    refine skp (h := ?_)
    refine q_seq (h := ?_)
    refine sq (h := ?_)
    refine rg (h := ?_)
    refine WL.y (hy := (by first | exact fa | exact faE)) (h := ?_)
    refine WL.y (hy := (by first | exact ld | exact ldE)) (h := ?_)
    refine WL.y (hy := (by first | exact fa | exact faE)) (h := ?_)
    refine WL.y (hy := (by first | exact ld | exact ldE)) (h := ?_)
    refine WL.y (hy := maxI) (h := ?_)
    refine WL.y (hy := mv) (h := ?_)
    refine WL.y (hy := lss) (h := ?_)
    refine WL.y (hy := mv) (h := ?_)
    apply brOr 13 33 46 (by exact rfl)
    · intro hb4
      refine un (h := ?_)
      refine WL.y (hy := (by first | exact fa | exact faE)) (h := ?_)
      refine un (h := ?_)
      refine WL.y (hy := (by first | exact ld | exact ldE)) (h := ?_)
      refine un (h := ?_)
      refine WL.y (hy := (by first | exact fa | exact faE)) (h := ?_)
      refine un (h := ?_)
      refine WL.y (hy := (by first | exact ld | exact ldE)) (h := ?_)
      refine un (h := ?_)
      refine WL.y (hy := maxI) (h := ?_)
      refine un (h := ?_)
      refine WL.y (hy := (by first | exact fa | exact faE)) (h := ?_)
      refine un (h := ?_)
      refine WL.y (hy := (by first | exact ld | exact ldE)) (h := ?_)
      refine un (h := ?_)
      refine WL.y (hy := (by first | exact fa | exact faE)) (h := ?_)
      refine un (h := ?_)
      refine WL.y (hy := (by first | exact ld | exact ldE)) (h := ?_)
      refine un (h := ?_)
      refine WL.y (hy := minI) (h := ?_)
      refine un (h := ?_)
      refine WL.y (hy := subI) (h := ?_)
      refine un (h := ?_)
      refine WL.y (hy := leq) (h := ?_)
      refine WL.y (hy := (by first | exact pkT | exact pkF)) (h := ?_)
      exact mg (by repeat (first | exact trivial | refine ⟨rfl, ?_⟩ | refine ⟨by rw [hb4]; rfl, ?_⟩)) (by repeat (first | exact SubL.nil | (apply SubL.cons; (repeat (first | exact At.here | apply At.there))) | exact SubL.refl _ | apply SubL.skip))
    · intro hb4
      repeat (first | refine un (h := ?_) | refine sk (h := ?_) | refine WL.y (hy := pkF) (h := ?_) | refine WL.y (hy := pkT) (h := ?_))
      exact mg (by repeat (first | exact trivial | refine ⟨rfl, ?_⟩ | refine ⟨by rw [hb4]; rfl, ?_⟩)) (by repeat (first | exact SubL.nil | (apply SubL.cons; (repeat (first | exact At.here | apply At.there))) | exact SubL.refl _ | apply SubL.skip))
    refine WL.y (hy := asg) (h := ?_)
    refine nl (h := ?_)
    refine q_seq (h := ?_)
    refine rtn (h := ?_)
    refine q_ret (hR := ?_)
    exact fun w hS => ⟨by unfold arePts; rw [hc]; rfl, hS.sub (by repeat (first | exact SubL.nil | (apply SubL.cons; (repeat (first | exact At.here | apply At.there))) | exact SubL.refl _ | apply SubL.skip))⟩
end Go.Proofs.Ytacaojifempclaa

namespace Go.Proofs.Ytacaojifempclaa
open Go Go.RowKit

structure OX where
  (A1 : Option Addr) (c1 : Nat) (T : List MR) (A2 : Option Addr) (c2 : Nat) (U : List MR)
structure OA where
  (k : Nat) (T U : List MR) (A1 : Option Addr) (c1 : Nat) (A2 : Option Addr) (c2 : Nat)
structure OB where
  (k : Nat) (T U : List MR)
def OrdOk (f : Fmt) (s : Pr) (x : OX) : Prop := (Mx 45 x.T (mxV x.T) ∧ Mx 45 x.U (mxV x.U)) ∧ ∀ i j : Nat, i < 45 → j < 45 → (0 < gv x.T i j ↔ expT f s i j = some false) ∧ (gv x.U i j = 0 ↔ ¬ expT f s i j = some true)
theorem zero_mx {T : List MR} (hl : T.length = 45) (hz : ∀ h ∈ T, h.2.2 = zrow 45) : Mx 45 T (mxV T) ∧ ∀ i j, gv T i j = 0 := by
  refine ⟨⟨rfl, hl, fun h hh => by rw [hz h hh]; exact zrow_len 45⟩, fun i j => ?_⟩
  unfold gv
  cases h : T[i]? with
  | none => simp
  | some r =>
    rw [Option.getD_some, hz r (List.mem_of_getElem? h), zrow, List.getD_eq_getElem?_getD, List.getElem?_replicate]
    by_cases hj : j < 45
    · rw [if_pos hj]; rfl
    · rw [if_neg hj]; rfl
theorem tgt_at {sum a k : Nat} (hk : k < 2) (ha : a ≤ sum) : ∃ p1 p2 : Nat, addV ((a : Int), ((sum - a : Nat) : Int)) k = ((p1 : Int), (p2 : Int)) ∧ Tgt sum a k p1 p2 := by
  have : k = 0 ∨ k = 1 := by omega
  rcases this with rfl | rfl
  · exact ⟨a + 1, sum - a, rfl, .inl ⟨rfl, by omega, by omega⟩⟩
  · exact ⟨a, sum - a + 1, rfl, .inr ⟨rfl, rfl, by omega⟩⟩
set_option maxRecDepth 100000 in
set_option maxHeartbeats 4000000 in
theorem C_orders (f : Fmt) (last : Bool) (hf : f.Ok) (ht : TieOk f (ruleV f last)) (w : World) : CR Try.prog 89 [f.val, .bool last] w (OrdOk f (ruleV f last)) (fun x => .tuple #[.slice x.A1 45 x.c1, .slice x.A2 45 x.c2]) (fun x => [.own x.A1 x.c1 45 1 45 (mxV x.T), mxE 3 x.T, .own x.A2 x.c2 45 1 45 (mxV x.U), mxE 3 x.U]) := by
  have hg0 := hf.g0
  have hg1 := hf.g1
  refine ⟨en Try.func89 Try.ntmps89 (St.init w) (h := fun F => ?_)⟩
  refine sq (h := ?_)
  refine rg (h := ?_)
  refine bxA (h := fun b0 => ?_)
  refine WL.y (hy := asg) (h := ?_)
  refine WL.y (hy := asg) (h := ?_)
  refine nl (h := ?_)
  refine q_seq (h := ?_)
  refine sq (h := ?_)
  refine rg (h := ?_)
  refine WL.y (hy := (by first | exact ldA | exact ldEA)) (h := ?_)
  refine WL.y (hy := mv) (h := ?_)
  refine cl0 (hc := fun w hS => C_ref1_Rule f last w) (h := ?_)
  refine WL.y (hy := mv) (h := ?_)
  refine WL.y (hy := ex) (h := ?_)
  refine WL.y (hy := ex) (h := ?_)
  refine WL.y (hy := asg) (h := ?_)
  refine WL.y (hy := asg) (h := ?_)
  refine nl (h := ?_)
  refine q_seq (h := ?_)
  refine sq (h := ?_)
  refine sq (h := ?_)
  refine WC.nilOwn 45 1 (h := ?_)
  refine WC.nilOwn 45 1 (h := ?_)
  refine WC.mx0 3 (h := ?_)
  refine WC.mx0 3 (h := ?_)
  refine rg (h := ?_)
  refine WL.y (hy := asg) (h := ?_)
  refine nl (h := ?_)
  refine q_seq (h := ?_)
  refine bk (h := ?_)
  refine lp (X := OA) (I := fun z => (z.k ≤ 45 ∧ z.T.length = z.k ∧ z.U.length = z.k) ∧ (∀ h ∈ z.T, h.2.2 = zrow 45) ∧ (∀ h ∈ z.U, h.2.2 = zrow 45)) (le := fun z => [(2, .pointer (some ⟨b0, 0, none⟩)), (4, .slice z.A1 z.k z.c1), (5, .slice z.A2 z.k z.c2), (6, .int .i64 (ruleV f last).1), (8, .int .i64 z.k)]) (Le := fun z => [.own z.A1 z.c1 45 1 z.k (mxV z.T), .own z.A2 z.c2 45 1 z.k (mxV z.U), mxE 3 z.T, mxE 3 z.U, .blk b0 23 f.cells]) (μ := fun z => 45 - z.k) ⟨0, [], [], none, 0, none, 0⟩ ⟨⟨Nat.zero_le _, rfl, rfl⟩, fun h hh => (by cases hh), fun h hh => (by cases hh)⟩ (by repeat (first | exact trivial | refine ⟨rfl, ?_⟩)) (by repeat (first | exact SubL.nil | (apply SubL.cons; (repeat (first | exact At.here | apply At.there))) | exact SubL.refl _ | apply SubL.skip)) (fun z hz => ?_)
  obtain ⟨⟨hz1, hz2, hz3⟩, hz4, hz5⟩ := hz
  refine sq (h := ?_)
  refine sq (h := ?_)
  refine rg (h := ?_)
  refine WL.y (hy := mv) (h := ?_)
  refine WL.y (hy := leq) (h := ?_)
  refine nl (h := ?_)
  refine q_seq (h := ?_)
  refine cd (by exact rfl) (fun h0 => ?_) (fun h0 => ?_)
  · skip
    have hkn : z.k < 45 := by simp only [decide_eq_true_eq] at h0; omega
    refine skp (h := ?_)
    refine q_seq (h := ?_)
    refine sq (h := ?_)
    refine bk (h := ?_)
    refine rgD (by kernel_rfl) [(3, .own z.A1 z.c1 45 1 z.k (mxV z.T)), (7, .own z.A2 z.c2 45 1 z.k (mxV z.U)), (1000000, mxE 3 z.T), (1000000, mxE 3 z.U), (1000000, .blk b0 23 f.cells)] (by repeat (first | exact HS.nil | (apply HS.keep; (repeat (first | exact At.here | apply At.there))) | (apply HS.ro; (repeat (first | exact Rds.ro | exact Rds.own | apply Rds.there))))) (h := ?_)
    refine tk 0 (hy := mv) (h := ?_)
    refine tk 4 (hy := mv) (h := ?_)
    refine two 1 5 (h1 := ?_) (h2 := ?_)
    · skip
      refine mks 45 (h := fun ga => ?_)
      refine nx (h := ?_)
      refine two 2 5 (h1 := ?_) (h2 := ?_)
      · skip
        refine bs (h := fun b1 => ?_)
        refine nx (h := ?_)
        refine two 3 5 (h1 := ?_) (h2 := ?_)
        · skip
          first | refine ap (h := fun A1 c1 => ?_) | refine ap0 (h := fun A1 c1 => ?_)
          refine nx (h := ?_)
          refine one 5 (h := ?_)
          refine mks 45 (h := fun gb => ?_)
          refine nx (h := ?_)
          refine one 6 (h := ?_)
          refine bs (h := fun b2 => ?_)
          refine nx (h := ?_)
          refine one 7 (h := ?_)
          first | refine ap (h := fun A2 c2 => ?_) | refine ap0 (h := fun A2 c2 => ?_)
          refine nx (h := ?_)
          refine tk 8 (hy := asg) (h := ?_)
          refine tk 9 (hy := asg) (h := ?_)
          refine dn (h := ?_)
          refine q_blk_norm (h := ?_)
          refine q_seq (h := ?_)
          rw [← mxV_z (some ⟨ga, 0, none⟩) 45 45, ← mxV_app, ← mxV_z (some ⟨gb, 0, none⟩) 45 45, ← mxV_app]
          refine WC.mxAdd (hs := z.T) (some ⟨ga, 0, none⟩) 45 (zrow 45) (by repeat (first | exact At.here | apply At.there)) (by repeat (first | exact At.here | apply At.there)) rfl (zrow_mi 45) ?_
          refine WC.mxAdd (hs := z.U) (some ⟨gb, 0, none⟩) 45 (zrow 45) (by repeat (first | exact At.here | apply At.there)) (by repeat (first | exact At.here | apply At.there)) rfl (zrow_mi 45) ?_
          refine rg (h := ?_)
          refine WL.y (hy := mv) (h := ?_)
          refine WL.y (hy := addI) (h := ?_)
          refine WL.y (hy := asg) (h := ?_)
          refine nl (h := ?_)
          refine rn (x := z) ⟨z.k + 1, z.T ++ [(some ⟨ga, 0, none⟩, 45, zrow 45)], z.U ++ [(some ⟨gb, 0, none⟩, 45, zrow 45)], _, _, _, _⟩ ⟨⟨by dsimp only; omega, by dsimp only; rw [List.length_append, hz2]; rfl, by dsimp only; rw [List.length_append, hz3]; rfl⟩, fun h hh => by
            dsimp only at hh
            rcases List.mem_append.1 hh with hh | hh
            · exact hz4 h hh
            · simp only [List.mem_singleton] at hh; subst hh; rfl, fun h hh => by
            dsimp only at hh
            rcases List.mem_append.1 hh with hh | hh
            · exact hz5 h hh
            · simp only [List.mem_singleton] at hh; subst hh; rfl⟩ (by dsimp only; omega) (by repeat (first | exact trivial | refine ⟨rfl, ?_⟩)) (by repeat (first | exact SubL.nil | (apply SubL.cons; (repeat (first | exact At.here | apply At.there))) | exact SubL.refl _ | apply SubL.skip))
        · skip
          refine mks 45 (h := fun gb => ?_)
          refine nx (h := ?_)
          refine two 3 6 (h1 := ?_) (h2 := ?_)
          · skip
            first | refine ap (h := fun A3 c3 => ?_) | refine ap0 (h := fun A3 c3 => ?_)
            refine nx (h := ?_)
            refine one 6 (h := ?_)
            refine bs (h := fun b3 => ?_)
            refine nx (h := ?_)
            refine one 7 (h := ?_)
            first | refine ap (h := fun A4 c4 => ?_) | refine ap0 (h := fun A4 c4 => ?_)
            refine nx (h := ?_)
            refine tk 8 (hy := asg) (h := ?_)
            refine tk 9 (hy := asg) (h := ?_)
            refine dn (h := ?_)
            refine q_blk_norm (h := ?_)
            refine q_seq (h := ?_)
            rw [← mxV_z (some ⟨ga, 0, none⟩) 45 45, ← mxV_app, ← mxV_z (some ⟨gb, 0, none⟩) 45 45, ← mxV_app]
            refine WC.mxAdd (hs := z.T) (some ⟨ga, 0, none⟩) 45 (zrow 45) (by repeat (first | exact At.here | apply At.there)) (by repeat (first | exact At.here | apply At.there)) rfl (zrow_mi 45) ?_
            refine WC.mxAdd (hs := z.U) (some ⟨gb, 0, none⟩) 45 (zrow 45) (by repeat (first | exact At.here | apply At.there)) (by repeat (first | exact At.here | apply At.there)) rfl (zrow_mi 45) ?_
            refine rg (h := ?_)
            refine WL.y (hy := mv) (h := ?_)
            refine WL.y (hy := addI) (h := ?_)
            refine WL.y (hy := asg) (h := ?_)
            refine nl (h := ?_)
            refine rn (x := z) ⟨z.k + 1, z.T ++ [(some ⟨ga, 0, none⟩, 45, zrow 45)], z.U ++ [(some ⟨gb, 0, none⟩, 45, zrow 45)], _, _, _, _⟩ ⟨⟨by dsimp only; omega, by dsimp only; rw [List.length_append, hz2]; rfl, by dsimp only; rw [List.length_append, hz3]; rfl⟩, fun h hh => by
              dsimp only at hh
              rcases List.mem_append.1 hh with hh | hh
              · exact hz4 h hh
              · simp only [List.mem_singleton] at hh; subst hh; rfl, fun h hh => by
              dsimp only at hh
              rcases List.mem_append.1 hh with hh | hh
              · exact hz5 h hh
              · simp only [List.mem_singleton] at hh; subst hh; rfl⟩ (by dsimp only; omega) (by repeat (first | exact trivial | refine ⟨rfl, ?_⟩)) (by repeat (first | exact SubL.nil | (apply SubL.cons; (repeat (first | exact At.here | apply At.there))) | exact SubL.refl _ | apply SubL.skip))
          · skip
            refine bs (h := fun b4 => ?_)
            refine nx (h := ?_)
            refine one 3 (h := ?_)
            first | refine ap (h := fun A5 c5 => ?_) | refine ap0 (h := fun A5 c5 => ?_)
            refine nx (h := ?_)
            refine one 7 (h := ?_)
            first | refine ap (h := fun A6 c6 => ?_) | refine ap0 (h := fun A6 c6 => ?_)
            refine nx (h := ?_)
            refine tk 8 (hy := asg) (h := ?_)
            refine tk 9 (hy := asg) (h := ?_)
            refine dn (h := ?_)
            refine q_blk_norm (h := ?_)
            refine q_seq (h := ?_)
            rw [← mxV_z (some ⟨ga, 0, none⟩) 45 45, ← mxV_app, ← mxV_z (some ⟨gb, 0, none⟩) 45 45, ← mxV_app]
            refine WC.mxAdd (hs := z.T) (some ⟨ga, 0, none⟩) 45 (zrow 45) (by repeat (first | exact At.here | apply At.there)) (by repeat (first | exact At.here | apply At.there)) rfl (zrow_mi 45) ?_
            refine WC.mxAdd (hs := z.U) (some ⟨gb, 0, none⟩) 45 (zrow 45) (by repeat (first | exact At.here | apply At.there)) (by repeat (first | exact At.here | apply At.there)) rfl (zrow_mi 45) ?_
            refine rg (h := ?_)
            refine WL.y (hy := mv) (h := ?_)
            refine WL.y (hy := addI) (h := ?_)
            refine WL.y (hy := asg) (h := ?_)
            refine nl (h := ?_)
            refine rn (x := z) ⟨z.k + 1, z.T ++ [(some ⟨ga, 0, none⟩, 45, zrow 45)], z.U ++ [(some ⟨gb, 0, none⟩, 45, zrow 45)], _, _, _, _⟩ ⟨⟨by dsimp only; omega, by dsimp only; rw [List.length_append, hz2]; rfl, by dsimp only; rw [List.length_append, hz3]; rfl⟩, fun h hh => by
              dsimp only at hh
              rcases List.mem_append.1 hh with hh | hh
              · exact hz4 h hh
              · simp only [List.mem_singleton] at hh; subst hh; rfl, fun h hh => by
              dsimp only at hh
              rcases List.mem_append.1 hh with hh | hh
              · exact hz5 h hh
              · simp only [List.mem_singleton] at hh; subst hh; rfl⟩ (by dsimp only; omega) (by repeat (first | exact trivial | refine ⟨rfl, ?_⟩)) (by repeat (first | exact SubL.nil | (apply SubL.cons; (repeat (first | exact At.here | apply At.there))) | exact SubL.refl _ | apply SubL.skip))
      · skip
        refine mks 45 (h := fun gb => ?_)
        refine nx (h := ?_)
        refine two 2 6 (h1 := ?_) (h2 := ?_)
        · skip
          refine bs (h := fun b5 => ?_)
          refine nx (h := ?_)
          refine two 3 6 (h1 := ?_) (h2 := ?_)
          · skip
            first | refine ap (h := fun A7 c7 => ?_) | refine ap0 (h := fun A7 c7 => ?_)
            refine nx (h := ?_)
            refine one 6 (h := ?_)
            refine bs (h := fun b6 => ?_)
            refine nx (h := ?_)
            refine one 7 (h := ?_)
            first | refine ap (h := fun A8 c8 => ?_) | refine ap0 (h := fun A8 c8 => ?_)
            refine nx (h := ?_)
            refine tk 8 (hy := asg) (h := ?_)
            refine tk 9 (hy := asg) (h := ?_)
            refine dn (h := ?_)
            refine q_blk_norm (h := ?_)
            refine q_seq (h := ?_)
            rw [← mxV_z (some ⟨ga, 0, none⟩) 45 45, ← mxV_app, ← mxV_z (some ⟨gb, 0, none⟩) 45 45, ← mxV_app]
            refine WC.mxAdd (hs := z.T) (some ⟨ga, 0, none⟩) 45 (zrow 45) (by repeat (first | exact At.here | apply At.there)) (by repeat (first | exact At.here | apply At.there)) rfl (zrow_mi 45) ?_
            refine WC.mxAdd (hs := z.U) (some ⟨gb, 0, none⟩) 45 (zrow 45) (by repeat (first | exact At.here | apply At.there)) (by repeat (first | exact At.here | apply At.there)) rfl (zrow_mi 45) ?_
            refine rg (h := ?_)
            refine WL.y (hy := mv) (h := ?_)
            refine WL.y (hy := addI) (h := ?_)
            refine WL.y (hy := asg) (h := ?_)
            refine nl (h := ?_)
            refine rn (x := z) ⟨z.k + 1, z.T ++ [(some ⟨ga, 0, none⟩, 45, zrow 45)], z.U ++ [(some ⟨gb, 0, none⟩, 45, zrow 45)], _, _, _, _⟩ ⟨⟨by dsimp only; omega, by dsimp only; rw [List.length_append, hz2]; rfl, by dsimp only; rw [List.length_append, hz3]; rfl⟩, fun h hh => by
              dsimp only at hh
              rcases List.mem_append.1 hh with hh | hh
              · exact hz4 h hh
              · simp only [List.mem_singleton] at hh; subst hh; rfl, fun h hh => by
              dsimp only at hh
              rcases List.mem_append.1 hh with hh | hh
              · exact hz5 h hh
              · simp only [List.mem_singleton] at hh; subst hh; rfl⟩ (by dsimp only; omega) (by repeat (first | exact trivial | refine ⟨rfl, ?_⟩)) (by repeat (first | exact SubL.nil | (apply SubL.cons; (repeat (first | exact At.here | apply At.there))) | exact SubL.refl _ | apply SubL.skip))
          · skip
            refine bs (h := fun b7 => ?_)
            refine nx (h := ?_)
            refine one 3 (h := ?_)
            first | refine ap (h := fun A9 c9 => ?_) | refine ap0 (h := fun A9 c9 => ?_)
            refine nx (h := ?_)
            refine one 7 (h := ?_)
            first | refine ap (h := fun A10 c10 => ?_) | refine ap0 (h := fun A10 c10 => ?_)
            refine nx (h := ?_)
            refine tk 8 (hy := asg) (h := ?_)
            refine tk 9 (hy := asg) (h := ?_)
            refine dn (h := ?_)
            refine q_blk_norm (h := ?_)
            refine q_seq (h := ?_)
            rw [← mxV_z (some ⟨ga, 0, none⟩) 45 45, ← mxV_app, ← mxV_z (some ⟨gb, 0, none⟩) 45 45, ← mxV_app]
            refine WC.mxAdd (hs := z.T) (some ⟨ga, 0, none⟩) 45 (zrow 45) (by repeat (first | exact At.here | apply At.there)) (by repeat (first | exact At.here | apply At.there)) rfl (zrow_mi 45) ?_
            refine WC.mxAdd (hs := z.U) (some ⟨gb, 0, none⟩) 45 (zrow 45) (by repeat (first | exact At.here | apply At.there)) (by repeat (first | exact At.here | apply At.there)) rfl (zrow_mi 45) ?_
            refine rg (h := ?_)
            refine WL.y (hy := mv) (h := ?_)
            refine WL.y (hy := addI) (h := ?_)
            refine WL.y (hy := asg) (h := ?_)
            refine nl (h := ?_)
            refine rn (x := z) ⟨z.k + 1, z.T ++ [(some ⟨ga, 0, none⟩, 45, zrow 45)], z.U ++ [(some ⟨gb, 0, none⟩, 45, zrow 45)], _, _, _, _⟩ ⟨⟨by dsimp only; omega, by dsimp only; rw [List.length_append, hz2]; rfl, by dsimp only; rw [List.length_append, hz3]; rfl⟩, fun h hh => by
              dsimp only at hh
              rcases List.mem_append.1 hh with hh | hh
              · exact hz4 h hh
              · simp only [List.mem_singleton] at hh; subst hh; rfl, fun h hh => by
              dsimp only at hh
              rcases List.mem_append.1 hh with hh | hh
              · exact hz5 h hh
              · simp only [List.mem_singleton] at hh; subst hh; rfl⟩ (by dsimp only; omega) (by repeat (first | exact trivial | refine ⟨rfl, ?_⟩)) (by repeat (first | exact SubL.nil | (apply SubL.cons; (repeat (first | exact At.here | apply At.there))) | exact SubL.refl _ | apply SubL.skip))
        · skip
          refine bs (h := fun b8 => ?_)
          refine nx (h := ?_)
          refine one 2 (h := ?_)
          refine bs (h := fun b9 => ?_)
          refine nx (h := ?_)
          refine one 3 (h := ?_)
          first | refine ap (h := fun A11 c11 => ?_) | refine ap0 (h := fun A11 c11 => ?_)
          refine nx (h := ?_)
          refine one 7 (h := ?_)
          first | refine ap (h := fun A12 c12 => ?_) | refine ap0 (h := fun A12 c12 => ?_)
          refine nx (h := ?_)
          refine tk 8 (hy := asg) (h := ?_)
          refine tk 9 (hy := asg) (h := ?_)
          refine dn (h := ?_)
          refine q_blk_norm (h := ?_)
          refine q_seq (h := ?_)
          rw [← mxV_z (some ⟨ga, 0, none⟩) 45 45, ← mxV_app, ← mxV_z (some ⟨gb, 0, none⟩) 45 45, ← mxV_app]
          refine WC.mxAdd (hs := z.T) (some ⟨ga, 0, none⟩) 45 (zrow 45) (by repeat (first | exact At.here | apply At.there)) (by repeat (first | exact At.here | apply At.there)) rfl (zrow_mi 45) ?_
          refine WC.mxAdd (hs := z.U) (some ⟨gb, 0, none⟩) 45 (zrow 45) (by repeat (first | exact At.here | apply At.there)) (by repeat (first | exact At.here | apply At.there)) rfl (zrow_mi 45) ?_
          refine rg (h := ?_)
          refine WL.y (hy := mv) (h := ?_)
          refine WL.y (hy := addI) (h := ?_)
          refine WL.y (hy := asg) (h := ?_)
          refine nl (h := ?_)
          refine rn (x := z) ⟨z.k + 1, z.T ++ [(some ⟨ga, 0, none⟩, 45, zrow 45)], z.U ++ [(some ⟨gb, 0, none⟩, 45, zrow 45)], _, _, _, _⟩ ⟨⟨by dsimp only; omega, by dsimp only; rw [List.length_append, hz2]; rfl, by dsimp only; rw [List.length_append, hz3]; rfl⟩, fun h hh => by
            dsimp only at hh
            rcases List.mem_append.1 hh with hh | hh
            · exact hz4 h hh
            · simp only [List.mem_singleton] at hh; subst hh; rfl, fun h hh => by
            dsimp only at hh
            rcases List.mem_append.1 hh with hh | hh
            · exact hz5 h hh
            · simp only [List.mem_singleton] at hh; subst hh; rfl⟩ (by dsimp only; omega) (by repeat (first | exact trivial | refine ⟨rfl, ?_⟩)) (by repeat (first | exact SubL.nil | (apply SubL.cons; (repeat (first | exact At.here | apply At.there))) | exact SubL.refl _ | apply SubL.skip))
    · skip
      refine mks 45 (h := fun gb => ?_)
      refine nx (h := ?_)
      refine two 1 6 (h1 := ?_) (h2 := ?_)
      · skip
        refine mks 45 (h := fun ga => ?_)
        refine nx (h := ?_)
        refine two 2 6 (h1 := ?_) (h2 := ?_)
        · skip
          refine bs (h := fun b10 => ?_)
          refine nx (h := ?_)
          refine two 3 6 (h1 := ?_) (h2 := ?_)
          · skip
            first | refine ap (h := fun A13 c13 => ?_) | refine ap0 (h := fun A13 c13 => ?_)
            refine nx (h := ?_)
            refine one 6 (h := ?_)
            refine bs (h := fun b11 => ?_)
            refine nx (h := ?_)
            refine one 7 (h := ?_)
            first | refine ap (h := fun A14 c14 => ?_) | refine ap0 (h := fun A14 c14 => ?_)
            refine nx (h := ?_)
            refine tk 8 (hy := asg) (h := ?_)
            refine tk 9 (hy := asg) (h := ?_)
            refine dn (h := ?_)
            refine q_blk_norm (h := ?_)
            refine q_seq (h := ?_)
            rw [← mxV_z (some ⟨ga, 0, none⟩) 45 45, ← mxV_app, ← mxV_z (some ⟨gb, 0, none⟩) 45 45, ← mxV_app]
            refine WC.mxAdd (hs := z.T) (some ⟨ga, 0, none⟩) 45 (zrow 45) (by repeat (first | exact At.here | apply At.there)) (by repeat (first | exact At.here | apply At.there)) rfl (zrow_mi 45) ?_
            refine WC.mxAdd (hs := z.U) (some ⟨gb, 0, none⟩) 45 (zrow 45) (by repeat (first | exact At.here | apply At.there)) (by repeat (first | exact At.here | apply At.there)) rfl (zrow_mi 45) ?_
            refine rg (h := ?_)
            refine WL.y (hy := mv) (h := ?_)
            refine WL.y (hy := addI) (h := ?_)
            refine WL.y (hy := asg) (h := ?_)
            refine nl (h := ?_)
            refine rn (x := z) ⟨z.k + 1, z.T ++ [(some ⟨ga, 0, none⟩, 45, zrow 45)], z.U ++ [(some ⟨gb, 0, none⟩, 45, zrow 45)], _, _, _, _⟩ ⟨⟨by dsimp only; omega, by dsimp only; rw [List.length_append, hz2]; rfl, by dsimp only; rw [List.length_append, hz3]; rfl⟩, fun h hh => by
              dsimp only at hh
              rcases List.mem_append.1 hh with hh | hh
              · exact hz4 h hh
              · simp only [List.mem_singleton] at hh; subst hh; rfl, fun h hh => by
              dsimp only at hh
              rcases List.mem_append.1 hh with hh | hh
              · exact hz5 h hh
              · simp only [List.mem_singleton] at hh; subst hh; rfl⟩ (by dsimp only; omega) (by repeat (first | exact trivial | refine ⟨rfl, ?_⟩)) (by repeat (first | exact SubL.nil | (apply SubL.cons; (repeat (first | exact At.here | apply At.there))) | exact SubL.refl _ | apply SubL.skip))
          · skip
            refine bs (h := fun b12 => ?_)
            refine nx (h := ?_)
            refine one 3 (h := ?_)
            first | refine ap (h := fun A15 c15 => ?_) | refine ap0 (h := fun A15 c15 => ?_)
            refine nx (h := ?_)
            refine one 7 (h := ?_)
            first | refine ap (h := fun A16 c16 => ?_) | refine ap0 (h := fun A16 c16 => ?_)
            refine nx (h := ?_)
            refine tk 8 (hy := asg) (h := ?_)
            refine tk 9 (hy := asg) (h := ?_)
            refine dn (h := ?_)
            refine q_blk_norm (h := ?_)
            refine q_seq (h := ?_)
            rw [← mxV_z (some ⟨ga, 0, none⟩) 45 45, ← mxV_app, ← mxV_z (some ⟨gb, 0, none⟩) 45 45, ← mxV_app]
            refine WC.mxAdd (hs := z.T) (some ⟨ga, 0, none⟩) 45 (zrow 45) (by repeat (first | exact At.here | apply At.there)) (by repeat (first | exact At.here | apply At.there)) rfl (zrow_mi 45) ?_
            refine WC.mxAdd (hs := z.U) (some ⟨gb, 0, none⟩) 45 (zrow 45) (by repeat (first | exact At.here | apply At.there)) (by repeat (first | exact At.here | apply At.there)) rfl (zrow_mi 45) ?_
            refine rg (h := ?_)
            refine WL.y (hy := mv) (h := ?_)
            refine WL.y (hy := addI) (h := ?_)
            refine WL.y (hy := asg) (h := ?_)
            refine nl (h := ?_)
            refine rn (x := z) ⟨z.k + 1, z.T ++ [(some ⟨ga, 0, none⟩, 45, zrow 45)], z.U ++ [(some ⟨gb, 0, none⟩, 45, zrow 45)], _, _, _, _⟩ ⟨⟨by dsimp only; omega, by dsimp only; rw [List.length_append, hz2]; rfl, by dsimp only; rw [List.length_append, hz3]; rfl⟩, fun h hh => by
              dsimp only at hh
              rcases List.mem_append.1 hh with hh | hh
              · exact hz4 h hh
              · simp only [List.mem_singleton] at hh; subst hh; rfl, fun h hh => by
              dsimp only at hh
              rcases List.mem_append.1 hh with hh | hh
              · exact hz5 h hh
              · simp only [List.mem_singleton] at hh; subst hh; rfl⟩ (by dsimp only; omega) (by repeat (first | exact trivial | refine ⟨rfl, ?_⟩)) (by repeat (first | exact SubL.nil | (apply SubL.cons; (repeat (first | exact At.here | apply At.there))) | exact SubL.refl _ | apply SubL.skip))
        · skip
          refine bs (h := fun b13 => ?_)
          refine nx (h := ?_)
          refine one 2 (h := ?_)
          refine bs (h := fun b14 => ?_)
          refine nx (h := ?_)
          refine one 3 (h := ?_)
          first | refine ap (h := fun A17 c17 => ?_) | refine ap0 (h := fun A17 c17 => ?_)
          refine nx (h := ?_)
          refine one 7 (h := ?_)
          first | refine ap (h := fun A18 c18 => ?_) | refine ap0 (h := fun A18 c18 => ?_)
          refine nx (h := ?_)
          refine tk 8 (hy := asg) (h := ?_)
          refine tk 9 (hy := asg) (h := ?_)
          refine dn (h := ?_)
          refine q_blk_norm (h := ?_)
          refine q_seq (h := ?_)
          rw [← mxV_z (some ⟨ga, 0, none⟩) 45 45, ← mxV_app, ← mxV_z (some ⟨gb, 0, none⟩) 45 45, ← mxV_app]
          refine WC.mxAdd (hs := z.T) (some ⟨ga, 0, none⟩) 45 (zrow 45) (by repeat (first | exact At.here | apply At.there)) (by repeat (first | exact At.here | apply At.there)) rfl (zrow_mi 45) ?_
          refine WC.mxAdd (hs := z.U) (some ⟨gb, 0, none⟩) 45 (zrow 45) (by repeat (first | exact At.here | apply At.there)) (by repeat (first | exact At.here | apply At.there)) rfl (zrow_mi 45) ?_
          refine rg (h := ?_)
          refine WL.y (hy := mv) (h := ?_)
          refine WL.y (hy := addI) (h := ?_)
          refine WL.y (hy := asg) (h := ?_)
          refine nl (h := ?_)
          refine rn (x := z) ⟨z.k + 1, z.T ++ [(some ⟨ga, 0, none⟩, 45, zrow 45)], z.U ++ [(some ⟨gb, 0, none⟩, 45, zrow 45)], _, _, _, _⟩ ⟨⟨by dsimp only; omega, by dsimp only; rw [List.length_append, hz2]; rfl, by dsimp only; rw [List.length_append, hz3]; rfl⟩, fun h hh => by
            dsimp only at hh
            rcases List.mem_append.1 hh with hh | hh
            · exact hz4 h hh
            · simp only [List.mem_singleton] at hh; subst hh; rfl, fun h hh => by
            dsimp only at hh
            rcases List.mem_append.1 hh with hh | hh
            · exact hz5 h hh
            · simp only [List.mem_singleton] at hh; subst hh; rfl⟩ (by dsimp only; omega) (by repeat (first | exact trivial | refine ⟨rfl, ?_⟩)) (by repeat (first | exact SubL.nil | (apply SubL.cons; (repeat (first | exact At.here | apply At.there))) | exact SubL.refl _ | apply SubL.skip))
      · skip
        refine bs (h := fun b15 => ?_)
        refine nx (h := ?_)
        refine one 1 (h := ?_)
        refine mks 45 (h := fun ga => ?_)
        refine nx (h := ?_)
        refine one 2 (h := ?_)
        refine bs (h := fun b16 => ?_)
        refine nx (h := ?_)
        refine one 3 (h := ?_)
        first | refine ap (h := fun A19 c19 => ?_) | refine ap0 (h := fun A19 c19 => ?_)
        refine nx (h := ?_)
        refine one 7 (h := ?_)
        first | refine ap (h := fun A20 c20 => ?_) | refine ap0 (h := fun A20 c20 => ?_)
        refine nx (h := ?_)
        refine tk 8 (hy := asg) (h := ?_)
        refine tk 9 (hy := asg) (h := ?_)
        refine dn (h := ?_)
        refine q_blk_norm (h := ?_)
        refine q_seq (h := ?_)
        rw [← mxV_z (some ⟨ga, 0, none⟩) 45 45, ← mxV_app, ← mxV_z (some ⟨gb, 0, none⟩) 45 45, ← mxV_app]
        refine WC.mxAdd (hs := z.T) (some ⟨ga, 0, none⟩) 45 (zrow 45) (by repeat (first | exact At.here | apply At.there)) (by repeat (first | exact At.here | apply At.there)) rfl (zrow_mi 45) ?_
        refine WC.mxAdd (hs := z.U) (some ⟨gb, 0, none⟩) 45 (zrow 45) (by repeat (first | exact At.here | apply At.there)) (by repeat (first | exact At.here | apply At.there)) rfl (zrow_mi 45) ?_
        refine rg (h := ?_)
        refine WL.y (hy := mv) (h := ?_)
        refine WL.y (hy := addI) (h := ?_)
        refine WL.y (hy := asg) (h := ?_)
        refine nl (h := ?_)
        refine rn (x := z) ⟨z.k + 1, z.T ++ [(some ⟨ga, 0, none⟩, 45, zrow 45)], z.U ++ [(some ⟨gb, 0, none⟩, 45, zrow 45)], _, _, _, _⟩ ⟨⟨by dsimp only; omega, by dsimp only; rw [List.length_append, hz2]; rfl, by dsimp only; rw [List.length_append, hz3]; rfl⟩, fun h hh => by
          dsimp only at hh
          rcases List.mem_append.1 hh with hh | hh
          · exact hz4 h hh
          · simp only [List.mem_singleton] at hh; subst hh; rfl, fun h hh => by
          dsimp only at hh
          rcases List.mem_append.1 hh with hh | hh
          · exact hz5 h hh
          · simp only [List.mem_singleton] at hh; subst hh; rfl⟩ (by dsimp only; omega) (by repeat (first | exact trivial | refine ⟨rfl, ?_⟩)) (by repeat (first | exact SubL.nil | (apply SubL.cons; (repeat (first | exact At.here | apply At.there))) | exact SubL.refl _ | apply SubL.skip))
  · skip
    have hkn : z.k = 45 := by simp only [decide_eq_false_iff_not] at h0; omega
    obtain ⟨k0, T0, U0, O1, c1, O2, c2⟩ := z
    dsimp only at hkn hz1 hz2 hz3 hz4 hz5 ⊢
    subst hkn
    obtain ⟨hM1, hG1⟩ := zero_mx hz2 hz4
    obtain ⟨hM2, hG2⟩ := zero_mx hz3 hz5
    obtain ⟨RA, Rc, Rx, hr0, hrl, hrv, hrg, hrd⟩ := hM1.at (a := 0) (by omega)
    have hM1' := hM1.set hr0 0 1
    have hI0 : OrdI f (ruleV f last) 0 0 0 (T0.set 0 (RA, Rc, Rx.set 0 1)) U0 := ord_init (fun i j hi hj => by rw [gv_set hr0 (by omega), hG1]) (fun i j _ _ => hG2 i j)
    refine et (h := ?_)
    refine q_then_exit (h := ?_)
    refine q_then_exit (h := ?_)
    refine q_blk_hit (h := ?_)
    refine q_seq (h := ?_)
    refine sq (h := ?_)
    refine rg (h := ?_)
    refine WL.y (hy := mv) (h := ?_)
    refine WL.y (hy := ix (A := O1) (m := 45)) (h := ?_)
    refine WL.y (hy := ldE (A := O1) (hk := hrv)) (h := ?_)
    refine WL.y (hy := ix (A := RA) (m := 45) (hr := by repeat (first | exact Rds.any (hrd 3) | apply Rds.there))) (h := ?_)
    refine WL.mxAt (hs := T0) hr0 (by repeat (first | exact At.here | apply At.there)) ?_
    refine stE (A := RA) (k := 0) (j := 0) (hk := mI_at (l := Rx) (k := 0) (by omega)) (h := ?_)
    rw [show (mI Rx).set 0 ([Value.int .i64 (Rx.getD 0 0)].set 0 (.int .i64 1)) = mI (Rx.set 0 1) from mI_set Rx 0 1]
    refine WL.mxPut (hs := T0) RA Rc (Rx.set 0 1) hr0 (by repeat (first | exact At.here | apply At.there)) (by repeat (first | exact At.here | apply At.there)) (by rw [List.length_set]) rfl ?_
    refine nl (h := ?_)
    refine q_seq (h := ?_)
    refine sq (h := ?_)
    refine sq (h := ?_)
    refine rg (h := ?_)
    refine WL.y (hy := asg) (h := ?_)
    refine nl (h := ?_)
    refine q_seq (h := ?_)
    refine bk (h := ?_)
    refine lp (X := OB) (I := fun z => (z.k ≤ 88 ∧ Mx 45 z.T (mxV T0) ∧ Mx 45 z.U (mxV U0)) ∧ OrdI f (ruleV f last) z.k (max 0 ((z.k : Int) - 44)) 0 z.T z.U) (le := fun z => [(2, .pointer (some ⟨b0, 0, none⟩)), (4, .slice O1 45 c1), (5, .slice O2 45 c2), (6, .int .i64 (ruleV f last).1), (9, .int .i64 z.k)]) (Le := fun z => [.own O1 c1 45 1 45 (mxV T0), .own O2 c2 45 1 45 (mxV U0), mxE 3 z.T, mxE 3 z.U, .blk b0 23 f.cells]) (μ := fun z => 88 - z.k) ⟨0, T0.set 0 (RA, Rc, Rx.set 0 1), U0⟩ ⟨⟨Nat.zero_le _, hM1', hM2⟩, hI0⟩ (by repeat (first | exact trivial | refine ⟨rfl, ?_⟩)) (by repeat (first | exact SubL.nil | (apply SubL.cons; (repeat (first | exact At.here | apply At.there))) | exact SubL.refl _ | apply SubL.skip)) (fun z hz => ?_)
    obtain ⟨⟨hzk, hz1, hz2⟩, hzI⟩ := hz
    refine sq (h := ?_)
    refine sq (h := ?_)
    refine rg (h := ?_)
    refine WL.y (hy := mv) (h := ?_)
    refine WL.y (hy := lss) (h := ?_)
    refine nl (h := ?_)
    refine q_seq (h := ?_)
    refine cd (by exact rfl) (fun h1 => ?_) (fun h1 => ?_)
    · skip
      have hkn : z.k < 88 := by simp only [decide_eq_true_eq] at h1; omega
      refine skp (h := ?_)
      refine q_seq (h := ?_)
      refine sq (h := ?_)
      refine bk (h := ?_)
      refine sq (h := ?_)
      refine rg (h := ?_)
      refine WL.y (hy := mv) (h := ?_)
      refine WL.y (hy := subI) (h := ?_)
      refine WL.y (hy := maxI) (h := ?_)
      refine WL.y (hy := asg) (h := ?_)
      rw [show max (0 : Int) ((z.k : Int) - 44) = ((z.k - 44 : Nat) : Int) by omega]
      refine nl (h := ?_)
      refine q_seq (h := ?_)
      refine bk (h := ?_)
      refine lp (X := OB) (I := fun u => (z.k - 44 ≤ u.k ∧ u.k ≤ min z.k 44 + 1 ∧ Mx 45 u.T (mxV T0) ∧ Mx 45 u.U (mxV U0)) ∧ OrdI f (ruleV f last) z.k u.k 0 u.T u.U) (le := fun u => [(2, .pointer (some ⟨b0, 0, none⟩)), (4, .slice O1 45 c1), (5, .slice O2 45 c2), (6, .int .i64 (ruleV f last).1), (9, .int .i64 z.k), (10, .int .i64 u.k)]) (Le := fun u => [.own O1 c1 45 1 45 (mxV T0), .own O2 c2 45 1 45 (mxV U0), mxE 3 u.T, mxE 3 u.U, .blk b0 23 f.cells]) (μ := fun u => 46 - u.k) ⟨z.k - 44, z.T, z.U⟩ ⟨⟨Nat.le_refl _, by dsimp only; omega, hz1, hz2⟩, by dsimp only; rw [show ((z.k - 44 : Nat) : Int) = max 0 ((z.k : Int) - 44) by omega]; exact hzI⟩ (by repeat (first | exact trivial | refine ⟨rfl, ?_⟩)) (by repeat (first | exact SubL.nil | (apply SubL.cons; (repeat (first | exact At.here | apply At.there))) | exact SubL.refl _ | apply SubL.skip)) (fun u hu => ?_)
      obtain ⟨⟨hu0, huk', hu1, hu2⟩, huI⟩ := hu
      refine sq (h := ?_)
      refine sq (h := ?_)
      refine rg (h := ?_)
      refine WL.y (hy := mv) (h := ?_)
      refine WL.y (hy := mv) (h := ?_)
      refine WL.y (hy := minI) (h := ?_)
      refine WL.y (hy := leq) (h := ?_)
      refine nl (h := ?_)
      refine q_seq (h := ?_)
      refine cd (by exact rfl) (fun h2 => ?_) (fun h2 => ?_)
      · skip
        have huk : u.k ≤ min z.k 44 := by simp only [decide_eq_true_eq] at h2; omega
        refine skp (h := ?_)
        refine q_seq (h := ?_)
        refine sq (h := ?_)
        refine bk (h := ?_)
        refine sq (h := ?_)
        refine rg (h := ?_)
        refine WL.y (hy := mv) (h := ?_)
        refine WL.y (hy := mv) (h := ?_)
        refine WL.y (hy := subI) (h := ?_)
        refine WL.y (hy := asg) (h := ?_)
        rw [show (z.k : Int) - (u.k : Int) = ((z.k - u.k : Nat) : Int) by omega]
        refine nl (h := ?_)
        refine q_seq (h := ?_)
        refine sq (h := ?_)
        refine rg (h := ?_)
        refine WL.y (hy := asg) (h := ?_)
        refine nl (h := ?_)
        refine q_seq (h := ?_)
        refine bk (h := ?_)
        refine lp (X := OB) (I := fun v => (v.k ≤ 2 ∧ Mx 45 v.T (mxV T0) ∧ Mx 45 v.U (mxV U0)) ∧ OrdI f (ruleV f last) z.k u.k v.k v.T v.U) (le := fun v => [(2, .pointer (some ⟨b0, 0, none⟩)), (4, .slice O1 45 c1), (5, .slice O2 45 c2), (6, .int .i64 (ruleV f last).1), (9, .int .i64 z.k), (10, .int .i64 u.k), (11, .int .i64 ((z.k - u.k : Nat) : Int)), (12, .int .i64 v.k)]) (Le := fun v => [.own O1 c1 45 1 45 (mxV T0), .own O2 c2 45 1 45 (mxV U0), mxE 3 v.T, mxE 3 v.U, .blk b0 23 f.cells]) (μ := fun v => 2 - v.k) ⟨0, u.T, u.U⟩ ⟨⟨Nat.zero_le _, hu1, hu2⟩, huI⟩ (by repeat (first | exact trivial | refine ⟨rfl, ?_⟩)) (by repeat (first | exact SubL.nil | (apply SubL.cons; (repeat (first | exact At.here | apply At.there))) | exact SubL.refl _ | apply SubL.skip)) (fun v hv => ?_)
        obtain ⟨⟨hvk, hv1, hv2⟩, hvI⟩ := hv
        obtain ⟨XA, Xc, Xx, hxr, hxl, hxv, hxg, hxd⟩ := hv1.at (a := u.k) (by omega)
        refine sq (h := ?_)
        refine sq (h := ?_)
        refine rg (h := ?_)
        refine WL.y (hy := mv) (h := ?_)
        refine WL.y (hy := lss) (h := ?_)
        refine WL.y (hy := mv) (h := ?_)
        apply brAnd 9 54 63 (by exact rfl)
        · intro hb3
          refine un (h := ?_)
          refine WL.y (hy := mv) (h := ?_)
          refine un (h := ?_)
          refine WL.y (hy := mv) (h := ?_)
          refine un (h := ?_)
          refine WL.y (hy := ix (A := O1) (m := 45)) (h := ?_)
          refine un (h := ?_)
          refine WL.y (hy := ldE (A := O1) (hk := hxv)) (h := ?_)
          refine un (h := ?_)
          refine WL.y (hy := mv) (h := ?_)
          refine un (h := ?_)
          refine WL.y (hy := ix (A := XA) (m := 45) (hr := by repeat (first | exact Rds.any (hxd 3) | apply Rds.there))) (h := ?_)
          refine un (h := ?_)
          refine WL.y (hy := ldE (A := XA) (hr := by repeat (first | exact Rds.any (hxd 3) | apply Rds.there)) (hk := mI_at (k := z.k - u.k) (by omega))) (h := ?_)
          refine un (h := ?_)
          refine WL.y (hy := gtr) (h := ?_)
          refine WL.y (hy := (by first | exact pkT | exact pkF)) (h := ?_)
          exact mg (by repeat (first | exact trivial | refine ⟨rfl, ?_⟩ | refine ⟨by rw [hb3]; rfl, ?_⟩)) (by repeat (first | exact SubL.nil | (apply SubL.cons; (repeat (first | exact At.here | apply At.there))) | exact SubL.refl _ | apply SubL.skip))
        · intro hb3
          repeat (first | refine un (h := ?_) | refine sk (h := ?_) | refine WL.y (hy := pkF) (h := ?_) | refine WL.y (hy := pkT) (h := ?_))
          exact mg (by repeat (first | exact trivial | refine ⟨rfl, ?_⟩ | refine ⟨by rw [hb3]; rfl, ?_⟩)) (by repeat (first | exact SubL.nil | (apply SubL.cons; (repeat (first | exact At.here | apply At.there))) | exact SubL.refl _ | apply SubL.skip))
        refine nl (h := ?_)
        refine q_seq (h := ?_)
        refine cd (by exact rfl) (fun h4 => ?_) (fun h4 => ?_)
        · skip
          have hg := h4
          simp only [Bool.and_eq_true, decide_eq_true_eq] at hg
          have hk2 : v.k < 2 := by omega
          have hop : OpenP f (ruleV f last) u.k ((z.k : Int) - u.k) := by
            have h1 := (hvI.t u.k (z.k - u.k) (by omega) (by omega)).2.1 (by rw [hxg]; exact hg.2)
            rw [show ((z.k - u.k : Nat) : Int) = (z.k : Int) - u.k by omega] at h1
            exact (pos_open ht (by omega)).1 h1
          obtain ⟨p1, p2, hp12, htg⟩ := tgt_at (sum := z.k) (a := u.k) hk2 (by omega)
          have htg' := htg
          unfold Tgt at htg'
          have hSm : Sm ((u.k : Int), ((z.k - u.k : Nat) : Int)) := ⟨by dsimp only; omega, by dsimp only; omega⟩
          have hSp : Sm ((p1 : Int), (p2 : Int)) := ⟨by dsimp only; omega, by dsimp only; omega⟩
          have hEe : EndP f (ruleV f last) u.k ((z.k : Int) - u.k) v.k = (decide (0 ≤ (ruleV f last).1) && decide ((u.k : Int) = (ruleV f last).1) && decide (((z.k - u.k : Nat) : Int) = (ruleV f last).1) || decide (0 ≤ leadsV ((p1 : Int), (p2 : Int)) f.games 2)) := by
            rw [show (z.k : Int) - u.k = ((z.k - u.k : Nat) : Int) by omega, EndP, hp12, brksV]
            by_cases hs0 : 0 ≤ (ruleV f last).1
            · rw [decide_eq_true hs0, Bool.true_and]
            · rw [decide_eq_false hs0, decide_eq_false (show ¬ (u.k : Int) = (ruleV f last).1 by omega)]; rfl
          have hvT := hvI.t u.k (z.k - u.k) (by omega) (by omega)
          rw [hxg] at hvT
          have hMW : MW = 1000000000001 := rfl
          refine skp (h := ?_)
          refine q_seq (h := ?_)
          refine sq (h := ?_)
          refine bk (h := ?_)
          refine sq (h := ?_)
          refine rg (h := ?_)
          refine WL.y (hy := mv) (h := ?_)
          refine WL.y (hy := mv) (h := ?_)
          refine WL.y (hy := bd) (h := ?_)
          refine WL.y (hy := mv) (h := ?_)
          refine cl0 (hc := fun w hS => C_ref1_plus ((u.k : Int), ((z.k - u.k : Nat) : Int)) v.k hSm w) (h := ?_)
          rw [hp12]
          refine al (h := fun b17 => ?_)
          first | refine stA (h := ?_) | refine stEA (h := ?_)
          refine nl (h := ?_)
          refine q_seq (h := ?_)
          refine sq (h := ?_)
          refine sq (h := ?_)
          refine rg (h := ?_)
          refine WL.y (hy := (by first | exact fa | exact faE)) (h := ?_)
          refine WL.y (hy := (by first | exact ld | exact ldE)) (h := ?_)
          refine WL.y (hy := gtr) (h := ?_)
          refine WL.y (hy := mv) (h := ?_)
          apply brOr 4 74 78 (by exact rfl)
          · intro hb5
            refine un (h := ?_)
            refine WL.y (hy := (by first | exact fa | exact faE)) (h := ?_)
            refine un (h := ?_)
            refine WL.y (hy := (by first | exact ld | exact ldE)) (h := ?_)
            refine un (h := ?_)
            refine WL.y (hy := gtr) (h := ?_)
            refine WL.y (hy := (by first | exact pkT | exact pkF)) (h := ?_)
            exact mg (by repeat (first | exact trivial | refine ⟨rfl, ?_⟩ | refine ⟨by rw [hb5]; rfl, ?_⟩)) (by repeat (first | exact SubL.nil | (apply SubL.cons; (repeat (first | exact At.here | apply At.there))) | exact SubL.refl _ | apply SubL.skip))
          · intro hb5
            repeat (first | refine un (h := ?_) | refine sk (h := ?_) | refine WL.y (hy := pkF) (h := ?_) | refine WL.y (hy := pkT) (h := ?_))
            exact mg (by repeat (first | exact trivial | refine ⟨rfl, ?_⟩ | refine ⟨by rw [hb5]; rfl, ?_⟩)) (by repeat (first | exact SubL.nil | (apply SubL.cons; (repeat (first | exact At.here | apply At.there))) | exact SubL.refl _ | apply SubL.skip))
          refine nl (h := ?_)
          refine q_seq (h := ?_)
          refine cd (by exact rfl) (fun h6 => ?_) (fun h6 => ?_)
          · skip
            have hnx := ord_out hvI (by simp only [Bool.or_eq_true, decide_eq_true_eq] at h6; omega)
            refine et (h := ?_)
            refine q_then_exit (h := ?_)
            refine q_blk_hit (h := ?_)
            refine q_seq (h := ?_)
            refine rg (h := ?_)
            refine WL.y (hy := mv) (h := ?_)
            refine WL.y (hy := addI) (h := ?_)
            refine WL.y (hy := asg) (h := ?_)
            refine nl (h := ?_)
            first
              | refine rn (x := v) ⟨v.k + 1, v.T, v.U⟩ ⟨⟨by dsimp only; omega, hv1, hv2⟩, by dsimp only; rw [Int.natCast_add]; exact hnx⟩ (by dsimp only; omega) (by repeat (first | exact trivial | refine ⟨rfl, ?_⟩)) (by repeat (first | exact SubL.nil | (apply SubL.cons; (repeat (first | exact At.here | apply At.there))) | exact SubL.refl _ | apply SubL.skip))
              | refine rn (x := v) ⟨v.k + 1, v.T, v.U.set p1 (YA, Yc, Yx.set p2 (min 1000000000001 (Yx.getD p2 0 + Xx.getD (z.k - u.k) 0)))⟩ ⟨⟨by dsimp only; omega, hv1, hM'⟩, by dsimp only; rw [Int.natCast_add]; exact hnx⟩ (by dsimp only; omega) (by repeat (first | exact trivial | refine ⟨rfl, ?_⟩)) (by repeat (first | exact SubL.nil | (apply SubL.cons; (repeat (first | exact At.here | apply At.there))) | exact SubL.refl _ | apply SubL.skip))
              | refine rn (x := v) ⟨v.k + 1, v.T.set p1 (YA, Yc, Yx.set p2 (min 1000000000001 (Yx.getD p2 0 + Xx.getD (z.k - u.k) 0))), v.U⟩ ⟨⟨by dsimp only; omega, hM', hv2⟩, by dsimp only; rw [Int.natCast_add]; exact hnx⟩ (by dsimp only; omega) (by repeat (first | exact trivial | refine ⟨rfl, ?_⟩)) (by repeat (first | exact SubL.nil | (apply SubL.cons; (repeat (first | exact At.here | apply At.there))) | exact SubL.refl _ | apply SubL.skip))
          · skip
            have hpb : p1 < 45 ∧ p2 < 45 := by simp only [Bool.or_eq_false_iff, decide_eq_false_iff_not] at h6; omega
            refine skp (h := ?_)
            refine q_seq (h := ?_)
            refine sq (h := ?_)
            refine rg (h := ?_)
            refine WL.y (hy := mv) (h := ?_)
            refine WL.y (hy := geq) (h := ?_)
            refine WL.y (hy := mv) (h := ?_)
            apply brAnd 4 81 85 (by exact rfl)
            · intro hb7
              refine un (h := ?_)
              refine WL.y (hy := mv) (h := ?_)
              refine un (h := ?_)
              refine WL.y (hy := mv) (h := ?_)
              refine un (h := ?_)
              refine WL.y (hy := eql) (h := ?_)
              refine WL.y (hy := (by first | exact pkT | exact pkF)) (h := ?_)
              exact mg (by repeat (first | exact trivial | refine ⟨rfl, ?_⟩ | refine ⟨by rw [hb7]; rfl, ?_⟩)) (by repeat (first | exact SubL.nil | (apply SubL.cons; (repeat (first | exact At.here | apply At.there))) | exact SubL.refl _ | apply SubL.skip))
            · intro hb7
              repeat (first | refine un (h := ?_) | refine sk (h := ?_) | refine WL.y (hy := pkF) (h := ?_) | refine WL.y (hy := pkT) (h := ?_))
              exact mg (by repeat (first | exact trivial | refine ⟨rfl, ?_⟩ | refine ⟨by rw [hb7]; rfl, ?_⟩)) (by repeat (first | exact SubL.nil | (apply SubL.cons; (repeat (first | exact At.here | apply At.there))) | exact SubL.refl _ | apply SubL.skip))
            refine WL.y (hy := mv) (h := ?_)
            apply brAnd 4 86 90 (by exact rfl)
            · intro hb8
              refine un (h := ?_)
              refine WL.y (hy := mv) (h := ?_)
              refine un (h := ?_)
              refine WL.y (hy := mv) (h := ?_)
              refine un (h := ?_)
              refine WL.y (hy := eql) (h := ?_)
              refine WL.y (hy := (by first | exact pkT | exact pkF)) (h := ?_)
              exact mg (by repeat (first | exact trivial | refine ⟨rfl, ?_⟩ | refine ⟨by rw [hb8]; rfl, ?_⟩)) (by repeat (first | exact SubL.nil | (apply SubL.cons; (repeat (first | exact At.here | apply At.there))) | exact SubL.refl _ | apply SubL.skip))
            · intro hb8
              repeat (first | refine un (h := ?_) | refine sk (h := ?_) | refine WL.y (hy := pkF) (h := ?_) | refine WL.y (hy := pkT) (h := ?_))
              exact mg (by repeat (first | exact trivial | refine ⟨rfl, ?_⟩ | refine ⟨by rw [hb8]; rfl, ?_⟩)) (by repeat (first | exact SubL.nil | (apply SubL.cons; (repeat (first | exact At.here | apply At.there))) | exact SubL.refl _ | apply SubL.skip))
            refine WL.y (hy := mv) (h := ?_)
            apply brOr 6 91 97 (by exact rfl)
            · intro hb9
              refine un (h := ?_)
              refine WL.y (hy := (by first | exact ldA | exact ldEA)) (h := ?_)
              refine un (h := ?_)
              refine WL.y (hy := (by first | exact fa | exact faE)) (h := ?_)
              refine un (h := ?_)
              refine WL.y (hy := (by first | exact ld | exact ldE)) (h := ?_)
              refine un (h := ?_)
              refine cl0 (hc := fun w hS => C_ref1_leads ((p1 : Int), (p2 : Int)) f.games hSp w) (h := ?_)
              refine un (h := ?_)
              refine WL.y (hy := geq) (h := ?_)
              refine WL.y (hy := (by first | exact pkT | exact pkF)) (h := ?_)
              exact mg (by repeat (first | exact trivial | refine ⟨rfl, ?_⟩ | refine ⟨by rw [hb9]; rfl, ?_⟩)) (by repeat (first | exact SubL.nil | (apply SubL.cons; (repeat (first | exact At.here | apply At.there))) | exact SubL.refl _ | apply SubL.skip))
            · intro hb9
              repeat (first | refine un (h := ?_) | refine sk (h := ?_) | refine WL.y (hy := pkF) (h := ?_) | refine WL.y (hy := pkT) (h := ?_))
              exact mg (by repeat (first | exact trivial | refine ⟨rfl, ?_⟩ | refine ⟨by rw [hb9]; rfl, ?_⟩)) (by repeat (first | exact SubL.nil | (apply SubL.cons; (repeat (first | exact At.here | apply At.there))) | exact SubL.refl _ | apply SubL.skip))
            refine nl (h := ?_)
            refine q_seq (h := ?_)
            refine cd (by exact rfl) (fun h10 => ?_) (fun h10 => ?_)
            · skip
              have he : EndP f (ruleV f last) u.k ((z.k : Int) - u.k) v.k = true := hEe.trans h10
              obtain ⟨YA, Yc, Yx, hyr, hyl, hyv, hyg, hyd⟩ := hv2.at hpb.1
              have hvY := hvI.u p1 p2 hpb.1 hpb.2
              rw [hyg] at hvY
              have hM' := hv2.set hyr p2 (min 1000000000001 (Yx.getD p2 0 + Xx.getD (z.k - u.k) 0))
              have hnx := ord_U hvI htg hop he (v := min 1000000000001 (Yx.getD p2 0 + Xx.getD (z.k - u.k) 0)) (by omega) (fun x y => gv_set hyr (by omega) _ x y)
              refine rgD (by kernel_rfl) [(26, mxE 3 v.U), (1000000, mxE 3 v.T), (1000000, .blk b17 26 [.int .i64 p1, .int .i64 p2]), (1000000, .own O1 c1 45 1 45 (mxV T0)), (1000000, .own O2 c2 45 1 45 (mxV U0)), (1000000, .blk b0 23 f.cells)] (by repeat (first | exact HS.nil | (apply HS.keep; (repeat (first | exact At.here | apply At.there))) | (apply HS.ro; (repeat (first | exact Rds.ro | exact Rds.own | apply Rds.there))))) (h := ?_)
              refine tk 0 (hy := mv) (h := ?_)
              refine tk 1 (hy := (by first | exact fa | exact faE)) (h := ?_)
              refine tk 2 (hy := (by first | exact ld | exact ldE)) (h := ?_)
              refine tk 3 (hy := ix (A := O2) (m := 45)) (h := ?_)
              refine tk 4 (hy := ldE (A := O2) (hk := hyv)) (h := ?_)
              refine tk 5 (hy := (by first | exact fa | exact faE)) (h := ?_)
              refine tk 6 (hy := (by first | exact ld | exact ldE)) (h := ?_)
              refine tk 7 (hy := mv) (h := ?_)
              refine tk 8 (hy := (by first | exact fa | exact faE)) (h := ?_)
              refine tk 9 (hy := (by first | exact ld | exact ldE)) (h := ?_)
              refine tk 10 (hy := ix (A := O2) (m := 45)) (h := ?_)
              refine tk 11 (hy := ldE (A := O2) (hk := hyv)) (h := ?_)
              refine tk 12 (hy := (by first | exact fa | exact faE)) (h := ?_)
              refine tk 13 (hy := (by first | exact ld | exact ldE)) (h := ?_)
              refine tk 14 (hy := ix (A := YA) (m := 45) (hr := by repeat (first | exact Rds.any (hyd 3) | apply Rds.there))) (h := ?_)
              refine tk 15 (hy := ldE (A := YA) (hr := by repeat (first | exact Rds.any (hyd 3) | apply Rds.there)) (hk := mI_at (k := p2) (by omega))) (h := ?_)
              refine tk 16 (hy := mv) (h := ?_)
              refine tk 17 (hy := mv) (h := ?_)
              refine tk 18 (hy := ix (A := O1) (m := 45)) (h := ?_)
              refine tk 19 (hy := ldE (A := O1) (hk := hxv)) (h := ?_)
              refine tk 20 (hy := mv) (h := ?_)
              refine tk 21 (hy := ix (A := XA) (m := 45) (hr := by repeat (first | exact Rds.any (hxd 3) | apply Rds.there))) (h := ?_)
              refine tk 22 (hy := ldE (A := XA) (hr := by repeat (first | exact Rds.any (hxd 3) | apply Rds.there)) (hk := mI_at (k := z.k - u.k) (by omega))) (h := ?_)
              refine tk 23 (hy := addI) (h := ?_)
              refine tk 24 (hy := minI) (h := ?_)
              refine tk 25 (hy := ix (A := YA) (m := 45) (hr := by repeat (first | exact Rds.any (hyd 3) | apply Rds.there))) (h := ?_)
              refine one 26 (h := ?_)
              refine WL.mxAt (hs := v.U) hyr (by repeat (first | exact At.here | apply At.there)) ?_
              refine stE (A := YA) (k := p2) (j := 0) (hk := mI_at (l := Yx) (k := p2) (by omega)) (h := ?_)
              rw [show (mI Yx).set p2 ([Value.int .i64 (Yx.getD p2 0)].set 0 (.int .i64 (min 1000000000001 (Yx.getD p2 0 + Xx.getD (z.k - u.k) 0)))) = mI (Yx.set p2 (min 1000000000001 (Yx.getD p2 0 + Xx.getD (z.k - u.k) 0))) from mI_set Yx p2 _]
              refine WL.mxPut (hs := v.U) YA Yc (Yx.set p2 (min 1000000000001 (Yx.getD p2 0 + Xx.getD (z.k - u.k) 0))) hyr (by repeat (first | exact At.here | apply At.there)) (by repeat (first | exact At.here | apply At.there)) (by rw [List.length_set]) rfl ?_
              refine nx (h := ?_)
              refine dn (h := ?_)
              refine q_blk_norm (h := ?_)
              refine q_seq (h := ?_)
              refine rg (h := ?_)
              refine WL.y (hy := mv) (h := ?_)
              refine WL.y (hy := addI) (h := ?_)
              refine WL.y (hy := asg) (h := ?_)
              refine nl (h := ?_)
              first
                | refine rn (x := v) ⟨v.k + 1, v.T, v.U⟩ ⟨⟨by dsimp only; omega, hv1, hv2⟩, by dsimp only; rw [Int.natCast_add]; exact hnx⟩ (by dsimp only; omega) (by repeat (first | exact trivial | refine ⟨rfl, ?_⟩)) (by repeat (first | exact SubL.nil | (apply SubL.cons; (repeat (first | exact At.here | apply At.there))) | exact SubL.refl _ | apply SubL.skip))
                | refine rn (x := v) ⟨v.k + 1, v.T, v.U.set p1 (YA, Yc, Yx.set p2 (min 1000000000001 (Yx.getD p2 0 + Xx.getD (z.k - u.k) 0)))⟩ ⟨⟨by dsimp only; omega, hv1, hM'⟩, by dsimp only; rw [Int.natCast_add]; exact hnx⟩ (by dsimp only; omega) (by repeat (first | exact trivial | refine ⟨rfl, ?_⟩)) (by repeat (first | exact SubL.nil | (apply SubL.cons; (repeat (first | exact At.here | apply At.there))) | exact SubL.refl _ | apply SubL.skip))
                | refine rn (x := v) ⟨v.k + 1, v.T.set p1 (YA, Yc, Yx.set p2 (min 1000000000001 (Yx.getD p2 0 + Xx.getD (z.k - u.k) 0))), v.U⟩ ⟨⟨by dsimp only; omega, hM', hv2⟩, by dsimp only; rw [Int.natCast_add]; exact hnx⟩ (by dsimp only; omega) (by repeat (first | exact trivial | refine ⟨rfl, ?_⟩)) (by repeat (first | exact SubL.nil | (apply SubL.cons; (repeat (first | exact At.here | apply At.there))) | exact SubL.refl _ | apply SubL.skip))
            · skip
              have he : EndP f (ruleV f last) u.k ((z.k : Int) - u.k) v.k = false := hEe.trans h10
              obtain ⟨YA, Yc, Yx, hyr, hyl, hyv, hyg, hyd⟩ := hv1.at hpb.1
              have hvY := hvI.t p1 p2 hpb.1 hpb.2
              rw [hyg] at hvY
              have hM' := hv1.set hyr p2 (min 1000000000001 (Yx.getD p2 0 + Xx.getD (z.k - u.k) 0))
              have hnx := ord_T hvI htg hop he (v := min 1000000000001 (Yx.getD p2 0 + Xx.getD (z.k - u.k) 0)) (by omega) (fun x y => gv_set hyr (by omega) _ x y)
              refine rgD (by kernel_rfl) [(26, mxE 3 v.T), (1000000, mxE 3 v.U), (1000000, .blk b17 26 [.int .i64 p1, .int .i64 p2]), (1000000, .own O1 c1 45 1 45 (mxV T0)), (1000000, .own O2 c2 45 1 45 (mxV U0)), (1000000, .blk b0 23 f.cells)] (by repeat (first | exact HS.nil | (apply HS.keep; (repeat (first | exact At.here | apply At.there))) | (apply HS.ro; (repeat (first | exact Rds.ro | exact Rds.own | apply Rds.there))))) (h := ?_)
              refine tk 0 (hy := mv) (h := ?_)
              refine tk 1 (hy := (by first | exact fa | exact faE)) (h := ?_)
              refine tk 2 (hy := (by first | exact ld | exact ldE)) (h := ?_)
              refine tk 3 (hy := ix (A := O1) (m := 45)) (h := ?_)
              refine tk 4 (hy := ldE (A := O1) (hk := hyv)) (h := ?_)
              refine tk 5 (hy := (by first | exact fa | exact faE)) (h := ?_)
              refine tk 6 (hy := (by first | exact ld | exact ldE)) (h := ?_)
              refine tk 7 (hy := mv) (h := ?_)
              refine tk 8 (hy := (by first | exact fa | exact faE)) (h := ?_)
              refine tk 9 (hy := (by first | exact ld | exact ldE)) (h := ?_)
              refine tk 10 (hy := ix (A := O1) (m := 45)) (h := ?_)
              refine tk 11 (hy := ldE (A := O1) (hk := hyv)) (h := ?_)
              refine tk 12 (hy := (by first | exact fa | exact faE)) (h := ?_)
              refine tk 13 (hy := (by first | exact ld | exact ldE)) (h := ?_)
              refine tk 14 (hy := ix (A := YA) (m := 45) (hr := by repeat (first | exact Rds.any (hyd 3) | apply Rds.there))) (h := ?_)
              refine tk 15 (hy := ldE (A := YA) (hr := by repeat (first | exact Rds.any (hyd 3) | apply Rds.there)) (hk := mI_at (k := p2) (by omega))) (h := ?_)
              refine tk 16 (hy := mv) (h := ?_)
              refine tk 17 (hy := mv) (h := ?_)
              refine tk 18 (hy := ix (A := O1) (m := 45)) (h := ?_)
              refine tk 19 (hy := ldE (A := O1) (hk := hxv)) (h := ?_)
              refine tk 20 (hy := mv) (h := ?_)
              refine tk 21 (hy := ix (A := XA) (m := 45) (hr := by repeat (first | exact Rds.any (hxd 3) | apply Rds.there))) (h := ?_)
              refine tk 22 (hy := ldE (A := XA) (hr := by repeat (first | exact Rds.any (hxd 3) | apply Rds.there)) (hk := mI_at (k := z.k - u.k) (by omega))) (h := ?_)
              refine tk 23 (hy := addI) (h := ?_)
              refine tk 24 (hy := minI) (h := ?_)
              refine tk 25 (hy := ix (A := YA) (m := 45) (hr := by repeat (first | exact Rds.any (hyd 3) | apply Rds.there))) (h := ?_)
              refine one 26 (h := ?_)
              refine WL.mxAt (hs := v.T) hyr (by repeat (first | exact At.here | apply At.there)) ?_
              refine stE (A := YA) (k := p2) (j := 0) (hk := mI_at (l := Yx) (k := p2) (by omega)) (h := ?_)
              rw [show (mI Yx).set p2 ([Value.int .i64 (Yx.getD p2 0)].set 0 (.int .i64 (min 1000000000001 (Yx.getD p2 0 + Xx.getD (z.k - u.k) 0)))) = mI (Yx.set p2 (min 1000000000001 (Yx.getD p2 0 + Xx.getD (z.k - u.k) 0))) from mI_set Yx p2 _]
              refine WL.mxPut (hs := v.T) YA Yc (Yx.set p2 (min 1000000000001 (Yx.getD p2 0 + Xx.getD (z.k - u.k) 0))) hyr (by repeat (first | exact At.here | apply At.there)) (by repeat (first | exact At.here | apply At.there)) (by rw [List.length_set]) rfl ?_
              refine nx (h := ?_)
              refine dn (h := ?_)
              refine q_blk_norm (h := ?_)
              refine q_seq (h := ?_)
              refine rg (h := ?_)
              refine WL.y (hy := mv) (h := ?_)
              refine WL.y (hy := addI) (h := ?_)
              refine WL.y (hy := asg) (h := ?_)
              refine nl (h := ?_)
              first
                | refine rn (x := v) ⟨v.k + 1, v.T, v.U⟩ ⟨⟨by dsimp only; omega, hv1, hv2⟩, by dsimp only; rw [Int.natCast_add]; exact hnx⟩ (by dsimp only; omega) (by repeat (first | exact trivial | refine ⟨rfl, ?_⟩)) (by repeat (first | exact SubL.nil | (apply SubL.cons; (repeat (first | exact At.here | apply At.there))) | exact SubL.refl _ | apply SubL.skip))
                | refine rn (x := v) ⟨v.k + 1, v.T, v.U.set p1 (YA, Yc, Yx.set p2 (min 1000000000001 (Yx.getD p2 0 + Xx.getD (z.k - u.k) 0)))⟩ ⟨⟨by dsimp only; omega, hv1, hM'⟩, by dsimp only; rw [Int.natCast_add]; exact hnx⟩ (by dsimp only; omega) (by repeat (first | exact trivial | refine ⟨rfl, ?_⟩)) (by repeat (first | exact SubL.nil | (apply SubL.cons; (repeat (first | exact At.here | apply At.there))) | exact SubL.refl _ | apply SubL.skip))
                | refine rn (x := v) ⟨v.k + 1, v.T.set p1 (YA, Yc, Yx.set p2 (min 1000000000001 (Yx.getD p2 0 + Xx.getD (z.k - u.k) 0))), v.U⟩ ⟨⟨by dsimp only; omega, hM', hv2⟩, by dsimp only; rw [Int.natCast_add]; exact hnx⟩ (by dsimp only; omega) (by repeat (first | exact trivial | refine ⟨rfl, ?_⟩)) (by repeat (first | exact SubL.nil | (apply SubL.cons; (repeat (first | exact At.here | apply At.there))) | exact SubL.refl _ | apply SubL.skip))
        · skip
          have hno : (2 : Int) ≤ v.k ∨ ¬ OpenP f (ruleV f last) u.k ((z.k : Int) - u.k) := by
            have hg := h4
            simp only [Bool.and_eq_false_iff, decide_eq_false_iff_not] at hg
            rcases hg with hg | hg
            · exact .inl (by omega)
            · refine .inr fun ho => hg ?_
              rw [← hxg]
              refine (hvI.t u.k (z.k - u.k) (by omega) (by omega)).2.2 ?_
              rw [show ((z.k - u.k : Nat) : Int) = (z.k : Int) - u.k by omega]
              exact (pos_open ht (by omega)).2 ho
          have hnx := ord_pair hvI hno (by omega)
          refine et (h := ?_)
          refine q_then_exit (h := ?_)
          refine q_then_exit (h := ?_)
          refine q_blk_hit (h := ?_)
          refine q_blk_norm (h := ?_)
          refine q_seq (h := ?_)
          refine rg (h := ?_)
          refine WL.y (hy := mv) (h := ?_)
          refine WL.y (hy := addI) (h := ?_)
          refine WL.y (hy := asg) (h := ?_)
          refine nl (h := ?_)
          refine rn (x := u) ⟨u.k + 1, v.T, v.U⟩ ⟨⟨by dsimp only; omega, by dsimp only; omega, hv1, hv2⟩, by dsimp only; rw [Int.natCast_add]; exact hnx⟩ (by dsimp only; omega) (by repeat (first | exact trivial | refine ⟨rfl, ?_⟩)) (by repeat (first | exact SubL.nil | (apply SubL.cons; (repeat (first | exact At.here | apply At.there))) | exact SubL.refl _ | apply SubL.skip))
      · skip
        have huk : min z.k 44 < u.k := by simp only [decide_eq_false_iff_not] at h2; omega
        have hnx := ord_row huI (by omega)
        refine et (h := ?_)
        refine q_then_exit (h := ?_)
        refine q_then_exit (h := ?_)
        refine q_blk_hit (h := ?_)
        refine q_blk_norm (h := ?_)
        refine q_seq (h := ?_)
        refine rg (h := ?_)
        refine WL.y (hy := mv) (h := ?_)
        refine WL.y (hy := addI) (h := ?_)
        refine WL.y (hy := asg) (h := ?_)
        refine nl (h := ?_)
        refine rn (x := z) ⟨z.k + 1, u.T, u.U⟩ ⟨⟨by dsimp only; omega, hu1, hu2⟩, by dsimp only; rw [Int.natCast_add]; exact hnx⟩ (by dsimp only; omega) (by repeat (first | exact trivial | refine ⟨rfl, ?_⟩)) (by repeat (first | exact SubL.nil | (apply SubL.cons; (repeat (first | exact At.here | apply At.there))) | exact SubL.refl _ | apply SubL.skip))
    · skip
      have hkn : z.k = 88 := by simp only [decide_eq_false_iff_not] at h1; omega
      have hfin := ord_end ht (a := max 0 ((z.k : Int) - 44)) (k := 0) (by rw [hkn] at hzI ⊢; exact hzI)
      refine et (h := ?_)
      refine q_then_exit (h := ?_)
      refine q_then_exit (h := ?_)
      refine q_blk_hit (h := ?_)
      refine q_seq (h := ?_)
      refine sq (h := ?_)
      refine rg (h := ?_)
      refine WL.y (hy := mv) (h := ?_)
      refine WL.y (hy := mv) (h := ?_)
      refine WL.y (hy := asg) (h := ?_)
      refine WL.y (hy := asg) (h := ?_)
      refine nl (h := ?_)
      refine q_seq (h := ?_)
      refine rtn (h := ?_)
      refine q_ret (hR := ?_)
      exact fun w hS => ⟨⟨O1, c1, z.T, O2, c2, z.U⟩, ⟨⟨by rw [hz1.v]; exact hz1, by rw [hz2.v]; exact hz2⟩, hfin⟩, rfl, hS.sub (by dsimp only; rw [hz1.v, hz2.v]; repeat (first | exact SubL.nil | (apply SubL.cons; (repeat (first | exact At.here | apply At.there))) | exact SubL.refl _ | apply SubL.skip))⟩
end Go.Proofs.Ytacaojifempclaa

namespace Go.Proofs.Ytacaojifempclaa
open Go Go.RowKit

theorem Rd.pre {w : World} {A : Option Addr} {size m : Nat} {es : List (List Value)} (h : Rd w A size m es) (k : Nat) (hk : k ≤ m) : Rd w A size k (es.take k) := by
  have h1 := Rd.part h (m + 1) 0 k (Nat.zero_le _) hk (by omega)
  have e : (if m + 1 = 0 then A else A.map (·.add (0 * size))) = A := by
    rw [if_neg (by omega)]
    cases A <;> simp [Addr.add_zero']
  rw [e] at h1
  simpa using h1
theorem lead_none {p : Pr} {l b : Int} : leadsV p l b = -1 ↔ ¬ (l ≤ p.1 ∧ b ≤ p.1 - p.2) ∧ ¬ (l ≤ p.2 ∧ b ≤ p.2 - p.1) := by
  unfold leadsV
  cases h1 : decide (l ≤ p.1) && decide (b ≤ p.1 - p.2)
  · cases h2 : decide (l ≤ p.2) && decide (b ≤ p.2 - p.1)
    · simp at h1 h2 ⊢; omega
    · simp at h1 h2 ⊢; omega
  · simp at h1 ⊢; omega
theorem encPU_take (l : List Pr) (k : Nat) : (encP l).take k = encP (l.take k) := by simp [encP, List.map_take]
theorem wonTo_take (l : List Pr) (K : Nat) : ∀ k, k ≤ K → wonTo (l.take K) k = wonTo l k
  | 0, _ => rfl
  | k + 1, hk => by rw [wonTo, wonTo, wonTo_take l K k (by omega), List.getElem?_take, if_pos (by omega)]
theorem wonV_take {l : List Pr} {K : Nat} (hK : K ≤ l.length) : wonV (l.take K) = wonTo l K := by
  unfold wonV
  rw [List.length_take, Nat.min_eq_left hK]
  exact wonTo_take l K K (Nat.le_refl _)
def TbOk (f : Fmt) (tb : Pr → Tb) : Prop := ∀ (s p : Pr), TieOk f s → p.1 ≤ 41 → p.2 ≤ 41 → flag (tb s) p = expT f s p.1 p.2
theorem tbOk_table (f : Fmt) : TbOk f (tableV f) := fun _ _ h h1 h2 => table_flag h h1 h2
section
variable {f : Fmt} {s : Pr}
theorem over_ne (h : TieOk f s) {a b : Int} (he : expT f s a b = some true) : a ≠ b := by
  unfold expT at he
  by_cases h0 : a = 0 ∧ b = 0
  · rw [if_pos h0] at he; cases he
  · rw [if_neg h0] at he
    by_cases h1 : OpenP f s (a - 1) b
    · rw [if_pos h1] at he
      have := (end0 f s (a - 1) b).1 (Option.some.inj he)
      unfold OpenP TieOk at *; omega
    · rw [if_neg h1] at he
      by_cases h2 : OpenP f s a (b - 1)
      · rw [if_pos h2] at he
        have := (end1 f s a (b - 1)).1 (Option.some.inj he)
        unfold OpenP TieOk at *; omega
      · rw [if_neg h2] at he; cases he
theorem pair_over (p : Pr) (t : Tb) : (!(tget t p).isSome || !(tat t p).2) = !decide (flag t p = some true) := by
  unfold flag tat
  cases tget t p with
  | none => rfl
  | some v =>
    obtain ⟨n, b⟩ := v
    cases b <;> simp
theorem side_ne {p : Pr} (h : p.1 ≠ p.2) : setSide p = wside p := by
  unfold setSide wside
  by_cases h1 : p.1 < p.2
  · rw [decide_eq_true h1, decide_eq_false (by omega)]; rfl
  · rw [decide_eq_false h1, decide_eq_true (by omega)]; rfl
theorem over_won {won : Pr} (h : WonOk f won) : overV f won = (decide (won.1 = f.sets) || decide (won.2 = f.sets)) := by
  unfold overV WonOk at *
  rw [Bool.eq_iff_iff, Bool.or_eq_true, decide_eq_true_eq, decide_eq_true_eq, decide_eq_true_eq]; omega
theorem step_is {tb : Pr → Tb} (htb : TbOk f tb) (hf : f.Ok) {l : List Pr} {k : Nat} {p : Pr} (hp : l[k]? = some p) (hpb : p.1 ≤ 40 ∧ p.2 ≤ 40) (ho : (setsTo tb f l k).ok = true) (hw : (setsTo tb f l k).won = wonTo l k) :
    (setsTo tb f l (k + 1)).ok = (!overV f (wonTo l k) && decide (expT f (setV f (wonTo l k)) p.1 p.2 = some true)) ∧ ((setsTo tb f l (k + 1)).ok = true → (setsTo tb f l (k + 1)).won = wonTo l (k + 1)) := by
  rw [setsTo_succ hp ho, setStep, hw, pair_over, htb _ _ (tie_ok hf _) (by omega) (by omega)]
  by_cases he : expT f (setV f (wonTo l k)) p.1 p.2 = some true
  · rw [decide_eq_true he]
    cases overV f (wonTo l k)
    · refine ⟨rfl, fun _ => ?_⟩
      show addV (wonTo l k) (setSide p) = _
      rw [side_ne (over_ne (tie_ok hf _) he), wonTo_succ hp]
    · exact ⟨rfl, fun e => by cases e⟩
  · rw [decide_eq_false he]
    cases overV f (wonTo l k)
    · exact ⟨rfl, fun e => by cases e⟩
    · exact ⟨rfl, fun e => by cases e⟩
theorem arises_no {tb : Pr → Tb} {b : Brd} {k : Nat} (h : (setsTo tb f b.st k).ok = false) (hk : k ≤ b.st.length) : (arisesT tb f b).2 = false := by
  have e : (setsTo tb f b.st b.st.length).ok = false := by rw [setsTo_stop h hk]; exact h
  unfold arisesT
  rw [e]; rfl
theorem arises_end {tb : Pr → Tb} {b : Brd} (h : (setsTo tb f b.st b.st.length).ok = true) (hw : (setsTo tb f b.st b.st.length).won = wonV b.st) (hov : overV f (wonV b.st) = true) : (arisesT tb f b).2 = (isZ b.g && isZ b.p) := by
  unfold arisesT
  rw [h, hw, hov]; rfl
theorem pts_is (f : Fmt) (s : Pr) (tie : Bool) (p : Pr) (hp : 0 ≤ p.1 ∧ 0 ≤ p.2) (hs : 1 ≤ s.2) : (isZ p || ((befV f s tie (p.1 - 1, p.2) || befV f s tie (p.1, p.2 - 1)) && befV f s tie p)) = arePts f tie s.2 p := by
  have hz : isZ p = decide (p.1 = 0 ∧ p.2 = 0) := by
    rw [Bool.eq_iff_iff, isZ_iff, decide_eq_true_eq]
    exact ⟨fun e => by rw [e]; exact ⟨rfl, rfl⟩, fun e => Prod.ext e.1 e.2⟩
  have hb : ∀ q : Pr, befV f s tie q = decide ((0 ≤ q.1 ∧ 0 ≤ q.2) ∧ ¬ (lst s tie ≤ q.1 ∧ byG f tie ≤ q.1 - q.2) ∧ ¬ (lst s tie ≤ q.2 ∧ byG f tie ≤ q.2 - q.1)) := fun q => by
    have hl := lead_none (p := q) (l := lst s tie) (b := byG f tie)
    have hr := leadsV_rng q (lst s tie) (byG f tie)
    unfold befV
    rw [game_is, Bool.eq_iff_iff, Bool.and_eq_true, decide_eq_true_eq, decide_eq_true_eq, decide_eq_true_eq]
    constructor
    · rintro ⟨h1, h2⟩
      exact ⟨by omega, hl.1 (by omega)⟩
    · rintro ⟨h1, h2⟩
      have := hl.2 h2
      exact ⟨by omega, by omega⟩
  rw [hz, hb, hb, hb, Bool.eq_iff_iff]
  unfold arePts lst byG
  cases tie
  · cases hn : f.noAd
    · simp only [Bool.not_false, Bool.true_and, cond_false, Bool.or_eq_true, Bool.and_eq_true, decide_eq_true_eq]; omega
    · simp only [Bool.not_false, Bool.true_and, cond_false, cond_true, Bool.or_eq_true, Bool.and_eq_true, decide_eq_true_eq]; omega
  · simp only [Bool.not_true, Bool.false_and, cond_false, cond_true, Bool.or_eq_true, Bool.and_eq_true, decide_eq_true_eq]; omega
theorem set_to1 (hf : f.Ok) (won : Pr) : 1 ≤ (setV f won).2 := by
  have h1 := hf.o0
  have h2 := hf.l0
  unfold setV
  cases decide (won.1 = f.sets - 1) && decide (won.2 = f.sets - 1) <;> simp only [cond_true, cond_false] <;> omega
theorem tied_is {l : List Pr} {g : Pr} (hg : 0 ≤ g.1) : tiedV f l g = brksV (setV f (wonV l)) g := by
  unfold tiedV brksV
  by_cases h : 0 ≤ (setV f (wonV l)).1
  · rw [decide_eq_true h, Bool.true_and]
  · rw [decide_eq_false h, decide_eq_false (show ¬ g.1 = (setV f (wonV l)).1 by omega)]; rfl
theorem arises_pts {tb : Pr → Tb} (htb : TbOk f tb) (hf : f.Ok) {b : Brd} (hg : (0 ≤ b.g.1 ∧ b.g.1 ≤ 40) ∧ 0 ≤ b.g.2 ∧ b.g.2 ≤ 40) (hp : 0 ≤ b.p.1 ∧ 0 ≤ b.p.2) (h : (setsTo tb f b.st b.st.length).ok = true) (hw : (setsTo tb f b.st b.st.length).won = wonV b.st) (hov : overV f (wonV b.st) = false) :
    (arisesT tb f b).2 = (decide (expT f (setV f (wonV b.st)) b.g.1 b.g.2 = some false) && arePts f (tiedV f b.st b.g) (setV f (wonV b.st)).2 b.p) := by
  rw [← pts_is f (setV f (wonV b.st)) _ b.p hp (set_to1 hf _), tied_is hg.1.1]
  unfold arisesT
  rw [h, hw, hov, pair_flag, htb _ _ (tie_ok hf _) (by omega) (by omega)]
  by_cases he : expT f (setV f (wonV b.st)) b.g.1 b.g.2 = some false
  · rw [decide_eq_true he]
    cases isZ b.p <;> rfl
  · rw [decide_eq_false he]; rfl
end
structure UHZ where
  (k : Nat)
set_option maxRecDepth 100000 in
set_option maxHeartbeats 4000000 in
theorem C_ref1_arises' (tb : Pr → Tb) (f : Fmt) (b : Brd) (htb : TbOk f tb) (hf : f.Ok) (hb : brdOk b = true) (A : Option Addr) (n c : Nat) (hc : n ≤ c) (w : World) (h : Rd w A 2 n (encP b.st)) : C0 Try.prog 43 [f.val, b.val A n c] w (.bool (arisesT tb f b).2) := by
  have hlen : b.st.length = n := by have := h.len; simpa [encP] using this
  have hbl := brd_len hb
  have hbp := brd_fit hb b.p (by simp [Brd.all])
  have hbg := brd_fit hb b.g (by simp [Brd.all])
  have hs0 := hf.s0
  have hwonV : wonV b.st = wonTo b.st n := by rw [wonV, hlen]
  refine ⟨en Try.func43 Try.ntmps43 ((St.init w).share (e := .ro A 2 n (encP b.st)) h rfl rfl rfl) (h := fun F => ?_)⟩
  refine sq (h := ?_)
  refine rg (h := ?_)
  refine bxA (h := fun b0 => ?_)
  refine bxA (h := fun b1 => ?_)
  refine WL.y (hy := asg) (h := ?_)
  refine nl (h := ?_)
  refine q_seq (h := ?_)
  refine sq (h := ?_)
  refine rg (h := ?_)
  refine al (h := fun b2 => ?_)
  refine nl (h := ?_)
  refine q_seq (h := ?_)
  refine sq (h := ?_)
  refine sq (h := ?_)
  refine rg (h := ?_)
  refine WL.y (hy := asg) (h := ?_)
  refine nl (h := ?_)
  refine q_seq (h := ?_)
  refine bk (h := ?_)
  refine lp (X := UHZ) (I := fun z => z.k ≤ n ∧ (setsTo tb f b.st z.k).ok = true ∧ (setsTo tb f b.st z.k).won = wonTo b.st z.k) (le := fun z => [(2, .pointer (some ⟨b0, 0, none⟩)), (3, .pointer (some ⟨b1, 0, none⟩)), (5, .pointer (some ⟨b2, 0, none⟩)), (6, .int .i64 z.k)]) (Le := fun z => [.blk b2 26 [.int .i64 (wonTo b.st z.k).1, .int .i64 (wonTo b.st z.k).2], .blk b0 23 f.cells, .blk b1 28 (b.cells A n c), .ro A 2 n (encP b.st)]) (μ := fun z => n - z.k) ⟨0⟩ ⟨Nat.zero_le _, rfl, rfl⟩ (by repeat (first | exact trivial | refine ⟨rfl, ?_⟩)) (by repeat (first | exact SubL.nil | (apply SubL.cons; (repeat (first | exact At.here | apply At.there))) | exact SubL.refl _ | apply SubL.skip)) (fun z hz => ?_)
  obtain ⟨hz1, hz2, hz3⟩ := hz
  refine sq (h := ?_)
  refine sq (h := ?_)
  refine rg (h := ?_)
  refine WL.y (hy := mv) (h := ?_)
  refine WL.y (hy := (by first | exact fa | exact faE)) (h := ?_)
  refine WL.y (hy := (by first | exact ld | exact ldE)) (h := ?_)
  refine WL.y (hy := lenS) (h := ?_)
  refine WL.y (hy := lss) (h := ?_)
  refine nl (h := ?_)
  refine q_seq (h := ?_)
  refine cd (by exact rfl) (fun h0 => ?_) (fun h0 => ?_)
  · skip
    have hkn : z.k < n := by simp only [decide_eq_true_eq] at h0; omega
    obtain ⟨p, hp⟩ : ∃ p, b.st[z.k]? = some p := ⟨_, List.getElem?_eq_getElem (by omega)⟩
    have hpe := encP_at hp
    have hpf := brd_fit hb p (by simp only [Brd.all]; exact List.mem_append_left _ (List.mem_of_getElem? hp))
    have hst := step_is htb hf hp (by omega) hz2 hz3
    have hwo : WonOk f (wonTo b.st z.k) := by rw [← hz3]; exact setsTo_won (by omega) _
    have how := over_won hwo
    refine skp (h := ?_)
    refine q_seq (h := ?_)
    refine sq (h := ?_)
    refine bk (h := ?_)
    refine sq (h := ?_)
    refine sq (h := ?_)
    refine rg (h := ?_)
    refine WL.y (hy := (by first | exact fa | exact faE)) (h := ?_)
    refine WL.y (hy := (by first | exact ld | exact ldE)) (h := ?_)
    refine WL.y (hy := (by first | exact fa | exact faE)) (h := ?_)
    refine WL.y (hy := (by first | exact ld | exact ldE)) (h := ?_)
    refine WL.y (hy := eql) (h := ?_)
    refine WL.y (hy := mv) (h := ?_)
    apply brOr 6 25 31 (by exact rfl)
    · intro hb1
      refine un (h := ?_)
      refine WL.y (hy := (by first | exact fa | exact faE)) (h := ?_)
      refine un (h := ?_)
      refine WL.y (hy := (by first | exact ld | exact ldE)) (h := ?_)
      refine un (h := ?_)
      refine WL.y (hy := (by first | exact fa | exact faE)) (h := ?_)
      refine un (h := ?_)
      refine WL.y (hy := (by first | exact ld | exact ldE)) (h := ?_)
      refine un (h := ?_)
      refine WL.y (hy := eql) (h := ?_)
      refine WL.y (hy := (by first | exact pkT | exact pkF)) (h := ?_)
      exact mg (by repeat (first | exact trivial | refine ⟨rfl, ?_⟩ | refine ⟨by rw [hb1]; rfl, ?_⟩)) (by repeat (first | exact SubL.nil | (apply SubL.cons; (repeat (first | exact At.here | apply At.there))) | exact SubL.refl _ | apply SubL.skip))
    · intro hb1
      repeat (first | refine un (h := ?_) | refine sk (h := ?_) | refine WL.y (hy := pkF) (h := ?_) | refine WL.y (hy := pkT) (h := ?_))
      exact mg (by repeat (first | exact trivial | refine ⟨rfl, ?_⟩ | refine ⟨by rw [hb1]; rfl, ?_⟩)) (by repeat (first | exact SubL.nil | (apply SubL.cons; (repeat (first | exact At.here | apply At.there))) | exact SubL.refl _ | apply SubL.skip))
    refine nl (h := ?_)
    refine q_seq (h := ?_)
    refine cd (by exact rfl) (fun h2 => ?_) (fun h2 => ?_)
    · skip
      have hE : (arisesT tb f b).2 = false := arises_no (k := z.k + 1) (by rw [hst.1, how, h2]; rfl) (by omega)
      refine sq (h := ?_)
      refine rg (h := ?_)
      refine WL.y (hy := asg) (h := ?_)
      refine nl (h := ?_)
      refine q_seq (h := ?_)
      refine rtn (h := ?_)
      refine q_then_ret (h := ?_)
      refine q_blk_ret (h := ?_)
      refine q_then_ret (h := ?_)
      refine q_then_ret (h := ?_)
      refine q_blk_ret (h := ?_)
      refine q_then_ret (h := ?_)
      refine q_ret (hR := ?_)
      first
        | (rw [hE]; exact fun w hS => ⟨rfl, hS.sub (by repeat (first | exact SubL.nil | (apply SubL.cons; (repeat (first | exact At.here | apply At.there))) | exact SubL.refl _ | apply SubL.skip))⟩)
        | (rw [hE]; refine fun w hS => ⟨?_, hS.sub (by repeat (first | exact SubL.nil | (apply SubL.cons; (repeat (first | exact At.here | apply At.there))) | exact SubL.refl _ | apply SubL.skip))⟩; rw [show decide (expT f (setV f (wonV b.st)) b.g.1 b.g.2 = some false) = decide (0 < Ox.getD b.g.2.toNat 0) from decide_eq_decide.2 hfl.symm]; first | rfl | (rw [hb7]; rfl))
    · skip
      have hov : overV f (wonTo b.st z.k) = false := how.trans h2
      refine skp (h := ?_)
      refine q_seq (h := ?_)
      refine sq (h := ?_)
      refine rgD0 (by kernel_rfl) (h := ?_)
      refine tk 0 (hy := (by first | exact ldA | exact ldEA)) (h := ?_)
      refine tk 1 (hy := (by first | exact ldA | exact ldEA)) (h := ?_)
      refine tk 2 (hy := (by first | exact ldA | exact ldEA)) (h := ?_)
      refine one 3 (h := ?_)
      refine cl0 (hc := fun w hS => C_ref1_IsLast f (wonTo b.st z.k) hf w) (h := ?_)
      refine nx (h := ?_)
      refine one 4 (h := ?_)
      refine cl (hc := fun w hS => C_orders f _ hf (tie_ok hf (wonTo b.st z.k)) w) (h := fun x hx => ?_)
      rw [rule_set] at hx
      obtain ⟨OA, Oc, Ox, hor, hol, hov2, hog, hod⟩ := hx.1.2.at (a := p.1.toNat) (by omega)
      refine nx (h := ?_)
      refine tk 5 (hy := mv) (h := ?_)
      refine tk 6 (hy := ex) (h := ?_)
      refine tk 7 (hy := ex) (h := ?_)
      refine tk 8 (hy := asg) (h := ?_)
      refine tk 9 (hy := asg) (h := ?_)
      refine dn (h := ?_)
      refine q_seq (h := ?_)
      refine sq (h := ?_)
      refine sq (h := ?_)
      refine rgD0 (by kernel_rfl) (h := ?_)
      refine tk 0 (hy := mv) (h := ?_)
      refine tk 1 (hy := (by first | exact fa | exact faE)) (h := ?_)
      refine tk 2 (hy := (by first | exact ld | exact ldE)) (h := ?_)
      refine tk 3 (hy := mv) (h := ?_)
      refine tk 4 (hy := ix (A := A) (m := n)) (h := ?_)
      refine tk 5 (hy := (by first | exact fa | exact faE)) (h := ?_)
      refine tk 6 (hy := ldE (A := A) (hk := hpe)) (h := ?_)
      refine tk 7 (hy := ix (A := x.A2) (m := 45)) (h := ?_)
      refine tk 8 (hy := ldE (A := x.A2) (hk := hov2)) (h := ?_)
      refine tk 9 (hy := (by first | exact fa | exact faE)) (h := ?_)
      refine tk 10 (hy := (by first | exact ld | exact ldE)) (h := ?_)
      refine tk 11 (hy := mv) (h := ?_)
      refine tk 12 (hy := ix (A := A) (m := n)) (h := ?_)
      refine tk 13 (hy := (by first | exact fa | exact faE)) (h := ?_)
      refine tk 14 (hy := ldE (A := A) (hk := hpe)) (h := ?_)
      refine tk 15 (hy := ix (A := OA) (m := 45) (hr := by repeat (first | exact Rds.any (hod 3) | apply Rds.there))) (h := ?_)
      refine tk 16 (hy := ldE (A := OA) (hr := by repeat (first | exact Rds.any (hod 3) | apply Rds.there)) (hk := mI_at (k := p.2.toNat) (by omega))) (h := ?_)
      refine tk 17 (hy := eql) (h := ?_)
      refine dn (h := ?_)
      refine q_seq (h := ?_)
      refine cd (by exact rfl) (fun h3 => ?_) (fun h3 => ?_)
      · skip
        have hE : (arisesT tb f b).2 = false := arises_no (k := z.k + 1) (by rw [hst.1, decide_eq_false ((hx.2 p.1.toNat p.2.toNat (by omega) (by omega)).2.1 (by rw [hog]; exact of_decide_eq_true h3) |> fun e => by rw [Int.toNat_of_nonneg hpf.1.1, Int.toNat_of_nonneg hpf.2.1] at e; exact e), Bool.and_false]) (by omega)
        refine sq (h := ?_)
        refine rg (h := ?_)
        refine WL.y (hy := asg) (h := ?_)
        refine nl (h := ?_)
        refine q_seq (h := ?_)
        refine rtn (h := ?_)
        refine q_then_ret (h := ?_)
        refine q_blk_ret (h := ?_)
        refine q_then_ret (h := ?_)
        refine q_then_ret (h := ?_)
        refine q_blk_ret (h := ?_)
        refine q_then_ret (h := ?_)
        refine q_ret (hR := ?_)
        first
          | (rw [hE]; exact fun w hS => ⟨rfl, hS.sub (by repeat (first | exact SubL.nil | (apply SubL.cons; (repeat (first | exact At.here | apply At.there))) | exact SubL.refl _ | apply SubL.skip))⟩)
          | (rw [hE]; refine fun w hS => ⟨?_, hS.sub (by repeat (first | exact SubL.nil | (apply SubL.cons; (repeat (first | exact At.here | apply At.there))) | exact SubL.refl _ | apply SubL.skip))⟩; rw [show decide (expT f (setV f (wonV b.st)) b.g.1 b.g.2 = some false) = decide (0 < Ox.getD b.g.2.toNat 0) from decide_eq_decide.2 hfl.symm]; first | rfl | (rw [hb7]; rfl))
      · skip
        have hex : expT f (setV f (wonTo b.st z.k)) p.1 p.2 = some true := by
          have h1 := (hx.2 p.1.toNat p.2.toNat (by omega) (by omega)).2
          rw [Int.toNat_of_nonneg hpf.1.1, Int.toNat_of_nonneg hpf.2.1, hog] at h1
          exact Classical.byContradiction fun e => (of_decide_eq_false h3) (h1.2 e)
        have hok : (setsTo tb f b.st (z.k + 1)).ok = true := by rw [hst.1, hov, decide_eq_true hex]; rfl
        have hwn := hst.2 hok
        have hwt := wonV_take (l := b.st) (K := z.k + 1) (by omega)
        refine skp (h := ?_)
        refine q_seq (h := ?_)
        refine rg (h := ?_)
        refine WL.y (hy := (by first | exact fa | exact faE)) (h := ?_)
        refine WL.y (hy := (by first | exact ld | exact ldE)) (h := ?_)
        refine WL.y (hy := mv) (h := ?_)
        refine WL.y (hy := addI) (h := ?_)
        refine WL.y (hy := slP (A := A) (m := n) (cap := c) (hi' := z.k + 1) (hc := by omega)) (h := ?_)
        refine cl0 (hc := fun w hS => C_ref1_Won (b.st.take (z.k + 1)) A (z.k + 1) c w (by rw [← encPU_take]; exact Rd.pre (hS.get (by repeat (first | exact Rds.ro | apply Rds.there))) (z.k + 1) (by omega)) (by omega)) (h := ?_)
        rw [hwt]
        first | refine stA (h := ?_) | refine stEA (h := ?_)
        refine nl (h := ?_)
        refine q_blk_norm (h := ?_)
        refine q_seq (h := ?_)
        refine rg (h := ?_)
        refine WL.y (hy := mv) (h := ?_)
        refine WL.y (hy := addI) (h := ?_)
        refine WL.y (hy := asg) (h := ?_)
        refine nl (h := ?_)
        refine rn (x := z) ⟨z.k + 1⟩ ⟨by dsimp only; omega, hok, hwn⟩ (by dsimp only; omega) (by repeat (first | exact trivial | refine ⟨rfl, ?_⟩)) (by repeat (first | exact SubL.nil | (apply SubL.cons; (repeat (first | exact At.here | apply At.there))) | exact SubL.refl _ | apply SubL.skip))
  · skip
    have hkn : z.k = n := by simp only [decide_eq_false_iff_not] at h0; omega
    rw [hkn] at hz2 hz3
    have hz2' : (setsTo tb f b.st b.st.length).ok = true := by rw [hlen]; exact hz2
    have hz3' : (setsTo tb f b.st b.st.length).won = wonV b.st := by rw [hlen, hwonV]; exact hz3
    have hwo : WonOk f (wonV b.st) := by rw [← hz3']; exact setsTo_won (by omega) _
    have how := over_won hwo
    rw [hkn, ← hwonV]
    refine et (h := ?_)
    refine q_then_exit (h := ?_)
    refine q_then_exit (h := ?_)
    refine q_blk_hit (h := ?_)
    refine q_seq (h := ?_)
    refine sq (h := ?_)
    refine sq (h := ?_)
    refine rg (h := ?_)
    refine WL.y (hy := (by first | exact fa | exact faE)) (h := ?_)
    refine WL.y (hy := (by first | exact ld | exact ldE)) (h := ?_)
    refine WL.y (hy := (by first | exact fa | exact faE)) (h := ?_)
    refine WL.y (hy := (by first | exact ld | exact ldE)) (h := ?_)
    refine WL.y (hy := eql) (h := ?_)
    refine WL.y (hy := mv) (h := ?_)
    apply brOr 6 69 75 (by exact rfl)
    · intro hb4
      refine un (h := ?_)
      refine WL.y (hy := (by first | exact fa | exact faE)) (h := ?_)
      refine un (h := ?_)
      refine WL.y (hy := (by first | exact ld | exact ldE)) (h := ?_)
      refine un (h := ?_)
      refine WL.y (hy := (by first | exact fa | exact faE)) (h := ?_)
      refine un (h := ?_)
      refine WL.y (hy := (by first | exact ld | exact ldE)) (h := ?_)
      refine un (h := ?_)
      refine WL.y (hy := eql) (h := ?_)
      refine WL.y (hy := (by first | exact pkT | exact pkF)) (h := ?_)
      exact mg (by repeat (first | exact trivial | refine ⟨rfl, ?_⟩ | refine ⟨by rw [hb4]; rfl, ?_⟩)) (by repeat (first | exact SubL.nil | (apply SubL.cons; (repeat (first | exact At.here | apply At.there))) | exact SubL.refl _ | apply SubL.skip))
    · intro hb4
      repeat (first | refine un (h := ?_) | refine sk (h := ?_) | refine WL.y (hy := pkF) (h := ?_) | refine WL.y (hy := pkT) (h := ?_))
      exact mg (by repeat (first | exact trivial | refine ⟨rfl, ?_⟩ | refine ⟨by rw [hb4]; rfl, ?_⟩)) (by repeat (first | exact SubL.nil | (apply SubL.cons; (repeat (first | exact At.here | apply At.there))) | exact SubL.refl _ | apply SubL.skip))
    refine nl (h := ?_)
    refine q_seq (h := ?_)
    refine cd (by exact rfl) (fun h5 => ?_) (fun h5 => ?_)
    · skip
      have hE := arises_end hz2' hz3' (how.trans h5)
      refine sq (h := ?_)
      refine rg (h := ?_)
      refine WL.y (hy := (by first | exact fa | exact faE)) (h := ?_)
      refine WL.y (hy := (by first | exact ldA | exact ldEA)) (h := ?_)
      refine WL.y (hy := bd) (h := ?_)
      refine WL.y (hy := eqlT) (h := ?_)
      refine WL.y (hy := mv) (h := ?_)
      apply brAnd 5 80 85 (by exact rfl)
      · intro hb6
        refine un (h := ?_)
        refine WL.y (hy := (by first | exact fa | exact faE)) (h := ?_)
        refine un (h := ?_)
        refine WL.y (hy := (by first | exact ldA | exact ldEA)) (h := ?_)
        refine un (h := ?_)
        refine WL.y (hy := bd) (h := ?_)
        refine un (h := ?_)
        refine WL.y (hy := eqlT) (h := ?_)
        refine WL.y (hy := (by first | exact pkT | exact pkF)) (h := ?_)
        exact mg (by repeat (first | exact trivial | refine ⟨rfl, ?_⟩ | refine ⟨by rw [hb6]; rfl, ?_⟩)) (by repeat (first | exact SubL.nil | (apply SubL.cons; (repeat (first | exact At.here | apply At.there))) | exact SubL.refl _ | apply SubL.skip))
      · intro hb6
        repeat (first | refine un (h := ?_) | refine sk (h := ?_) | refine WL.y (hy := pkF) (h := ?_) | refine WL.y (hy := pkT) (h := ?_))
        exact mg (by repeat (first | exact trivial | refine ⟨rfl, ?_⟩ | refine ⟨by rw [hb6]; rfl, ?_⟩)) (by repeat (first | exact SubL.nil | (apply SubL.cons; (repeat (first | exact At.here | apply At.there))) | exact SubL.refl _ | apply SubL.skip))
      refine WL.y (hy := asg) (h := ?_)
      refine nl (h := ?_)
      refine q_seq (h := ?_)
      refine rtn (h := ?_)
      refine q_then_ret (h := ?_)
      refine q_ret (hR := ?_)
      first
        | (rw [hE]; exact fun w hS => ⟨rfl, hS.sub (by repeat (first | exact SubL.nil | (apply SubL.cons; (repeat (first | exact At.here | apply At.there))) | exact SubL.refl _ | apply SubL.skip))⟩)
        | (rw [hE]; refine fun w hS => ⟨?_, hS.sub (by repeat (first | exact SubL.nil | (apply SubL.cons; (repeat (first | exact At.here | apply At.there))) | exact SubL.refl _ | apply SubL.skip))⟩; rw [show decide (expT f (setV f (wonV b.st)) b.g.1 b.g.2 = some false) = decide (0 < Ox.getD b.g.2.toNat 0) from decide_eq_decide.2 hfl.symm]; first | rfl | (rw [hb7]; rfl))
    · skip
      have hov : overV f (wonV b.st) = false := how.trans h5
      have hE := arises_pts htb hf hbg (by omega) hz2' hz3' hov
      refine skp (h := ?_)
      refine q_seq (h := ?_)
      refine sq (h := ?_)
      refine rgD0 (by kernel_rfl) (h := ?_)
      refine tk 0 (hy := (by first | exact ldA | exact ldEA)) (h := ?_)
      refine tk 1 (hy := (by first | exact ldA | exact ldEA)) (h := ?_)
      refine tk 2 (hy := (by first | exact ldA | exact ldEA)) (h := ?_)
      refine one 3 (h := ?_)
      refine cl0 (hc := fun w hS => C_ref1_IsLast f (wonV b.st) hf w) (h := ?_)
      refine nx (h := ?_)
      refine one 4 (h := ?_)
      refine cl (hc := fun w hS => C_orders f _ hf (tie_ok hf (wonV b.st)) w) (h := fun x hx => ?_)
      rw [rule_set] at hx
      obtain ⟨OA, Oc, Ox, hor, hol, hov2, hog, hod⟩ := hx.1.1.at (a := b.g.1.toNat) (by omega)
      have hfl := (hx.2 b.g.1.toNat b.g.2.toNat (by omega) (by omega)).1
      rw [Int.toNat_of_nonneg hbg.1.1, Int.toNat_of_nonneg hbg.2.1, hog] at hfl
      refine nx (h := ?_)
      refine tk 5 (hy := mv) (h := ?_)
      refine tk 6 (hy := ex) (h := ?_)
      refine tk 7 (hy := ex) (h := ?_)
      refine tk 8 (hy := asg) (h := ?_)
      refine tk 9 (hy := asg) (h := ?_)
      refine dn (h := ?_)
      refine q_seq (h := ?_)
      refine sq (h := ?_)
      refine rg (h := ?_)
      refine WL.y (hy := (by first | exact ldA | exact ldEA)) (h := ?_)
      refine WL.y (hy := (by first | exact ldA | exact ldEA)) (h := ?_)
      refine cl0 (hc := fun w hS => C_ref1_tied f b A n c hf w (hS.get (by repeat (first | exact Rds.ro | apply Rds.there))) (by omega)) (h := ?_)
      refine WL.y (hy := mv) (h := ?_)
      refine WL.y (hy := ex) (h := ?_)
      refine WL.y (hy := ex) (h := ?_)
      refine WL.y (hy := asg) (h := ?_)
      refine WL.y (hy := asg) (h := ?_)
      refine nl (h := ?_)
      refine q_seq (h := ?_)
      refine sq (h := ?_)
      refine rgD0 (by kernel_rfl) (h := ?_)
      refine tk 0 (hy := mv) (h := ?_)
      refine tk 1 (hy := (by first | exact fa | exact faE)) (h := ?_)
      refine tk 2 (hy := (by first | exact fa | exact faE)) (h := ?_)
      refine tk 3 (hy := (by first | exact ld | exact ldE)) (h := ?_)
      refine tk 4 (hy := ix (A := x.A1) (m := 45)) (h := ?_)
      refine tk 5 (hy := ldE (A := x.A1) (hk := hov2)) (h := ?_)
      refine tk 6 (hy := (by first | exact fa | exact faE)) (h := ?_)
      refine tk 7 (hy := (by first | exact fa | exact faE)) (h := ?_)
      refine tk 8 (hy := (by first | exact ld | exact ldE)) (h := ?_)
      refine tk 9 (hy := ix (A := OA) (m := 45) (hr := by repeat (first | exact Rds.any (hod 3) | apply Rds.there))) (h := ?_)
      refine tk 10 (hy := ldE (A := OA) (hr := by repeat (first | exact Rds.any (hod 3) | apply Rds.there)) (hk := mI_at (k := b.g.2.toNat) (by omega))) (h := ?_)
      refine tk 11 (hy := gtr) (h := ?_)
      refine tk 12 (hy := mv) (h := ?_)
      refine brH (g := 112) (by exact rfl) (fun hb7 => ?_) (fun hb7 => ?_)
      · skip
        refine tk 13 (hy := (by first | exact ldA | exact ldEA)) (h := ?_)
        refine tk 14 (hy := mv) (h := ?_)
        refine tk 15 (hy := mv) (h := ?_)
        refine tk 16 (hy := (by first | exact fa | exact faE)) (h := ?_)
        refine tk 17 (hy := (by first | exact ldA | exact ldEA)) (h := ?_)
        refine one 18 (h := ?_)
        refine un (h := ?_)
        refine cl0 (hc := fun w hS => C_ArePoints f (tiedV f b.st b.g) (setV f (wonV b.st)).2 b.p (by omega) w) (h := ?_)
        refine nx (h := ?_)
        refine tk 19 (hy := (by first | exact pkT | exact pkF)) (h := ?_)
        refine tk 20 (hy := asg) (h := ?_)
        refine dn (h := ?_)
        refine q_seq (h := ?_)
        refine rtn (h := ?_)
        refine q_ret (hR := ?_)
        first
          | (rw [hE]; exact fun w hS => ⟨rfl, hS.sub (by repeat (first | exact SubL.nil | (apply SubL.cons; (repeat (first | exact At.here | apply At.there))) | exact SubL.refl _ | apply SubL.skip))⟩)
          | (rw [hE]; refine fun w hS => ⟨?_, hS.sub (by repeat (first | exact SubL.nil | (apply SubL.cons; (repeat (first | exact At.here | apply At.there))) | exact SubL.refl _ | apply SubL.skip))⟩; rw [show decide (expT f (setV f (wonV b.st)) b.g.1 b.g.2 = some false) = decide (0 < Ox.getD b.g.2.toNat 0) from decide_eq_decide.2 hfl.symm]; first | rfl | (rw [hb7]; rfl))
      · skip
        refine tkS 13 (h := ?_)
        refine tkS 14 (h := ?_)
        refine tkS 15 (h := ?_)
        refine tkS 16 (h := ?_)
        refine tkS 17 (h := ?_)
        refine tkS 18 (h := ?_)
        refine tk 19 (hy := (by first | exact pkT | exact pkF)) (h := ?_)
        refine tk 20 (hy := asg) (h := ?_)
        refine dn (h := ?_)
        refine q_seq (h := ?_)
        refine rtn (h := ?_)
        refine q_ret (hR := ?_)
        first
          | (rw [hE]; exact fun w hS => ⟨rfl, hS.sub (by repeat (first | exact SubL.nil | (apply SubL.cons; (repeat (first | exact At.here | apply At.there))) | exact SubL.refl _ | apply SubL.skip))⟩)
          | (rw [hE]; refine fun w hS => ⟨?_, hS.sub (by repeat (first | exact SubL.nil | (apply SubL.cons; (repeat (first | exact At.here | apply At.there))) | exact SubL.refl _ | apply SubL.skip))⟩; rw [show decide (expT f (setV f (wonV b.st)) b.g.1 b.g.2 = some false) = decide (0 < Ox.getD b.g.2.toNat 0) from decide_eq_decide.2 hfl.symm]; first | rfl | (rw [hb7]; rfl))
end Go.Proofs.Ytacaojifempclaa

namespace Go.Proofs.Ytacaojifempclaa
open Go Go.RowKit

def tbV (f : Fmt) (s : Pr) (W L : Int) (i j : Nat) : Int := trG f s 1000000 44 W L (89 - i - j) i j
section
variable {f : Fmt} {s : Pr} {W L : Int}
def CDone (sum a i j : Int) : Prop := 44 ≤ i ∨ 44 ≤ j ∨ sum < i + j ∨ (i + j = sum ∧ i < a)
instance (sum a i j : Int) : Decidable (CDone sum a i j) := by unfold CDone; infer_instance
def CosI (f : Fmt) (s : Pr) (W L sum a : Int) (hs : List MR) : Prop := ∀ i j : Nat, i < 45 → j < 45 → gv hs i j = if CDone sum a i j then tbV f s W L i j else 1000000
theorem CosI.weak {sum a sum' a' : Int} {hs : List MR} (h : CosI f s W L sum a hs) (hd : ∀ i j : Int, 0 ≤ i → 0 ≤ j → (CDone sum a i j ↔ CDone sum' a' i j)) : CosI f s W L sum' a' hs := fun i j hi hj => by
  rw [h i j hi hj]
  have := hd i j (by omega) (by omega)
  by_cases hc : CDone sum a i j
  · rw [if_pos hc, if_pos (this.1 hc)]
  · rw [if_neg hc, if_neg (fun e => hc (this.2 e))]
end
end Go.Proofs.Ytacaojifempclaa

namespace Go.Proofs.Ytacaojifempclaa
open Go Go.RowKit

def arisesR (f : Fmt) (b : Brd) : List Value := bif !decide (chkF f = 0) then [.bool false, .int .i64 (chkF f)] else bif !brdOk b then [.bool false, .int .i64 12] else [.bool (arisesV f b).2, .int .i64 0]
set_option maxRecDepth 100000 in
theorem C_score_Arises (f : Fmt) (b : Brd) (A : Option Addr) (n c : Nat) (w : World) (h : Rd w A 2 n (encP b.st)) (hn : n ≤ 9223372036854775807) : C0 Try.prog 11 [f.val, b.val A n c] w (.tuple (arisesR f b).toArray) := by
  have hlen : b.st.length = n := by have := h.len; simpa [encP] using this
  refine ⟨en Try.func11 Try.ntmps11 ((St.init w).share (e := .ro A 2 n (encP b.st)) h rfl rfl rfl) (h := fun F => ?_)⟩
  refine sq (h := ?_)
  refine rg (h := ?_)
  refine bxA (h := fun b0 => ?_)
  refine bxA (h := fun b1 => ?_)
  refine WL.y (hy := asg) (h := ?_)
  refine WL.y (hy := asg) (h := ?_)
  refine nl (h := ?_)
  refine q_seq (h := ?_)
  refine sq (h := ?_)
  refine sq (h := ?_)
  refine rg (h := ?_)
  refine WL.y (hy := (by first | exact ldA | exact ldEA)) (h := ?_)
  refine cl0 (hc := fun w hS => C_score_Check _ w) (h := ?_)
  refine WL.y (hy := asg) (h := ?_)
  refine nl (h := ?_)
  refine q_seq (h := ?_)
  refine sq (h := ?_)
  refine rg (h := ?_)
  refine WL.y (hy := mv) (h := ?_)
  refine WL.y (hy := neq) (h := ?_)
  refine nl (h := ?_)
  refine q_seq (h := ?_)
  refine cd (by exact rfl) (fun h0 => ?_) (fun h0 => ?_)
  · skip
    refine sq (h := ?_)
    refine rg (h := ?_)
    refine WL.y (hy := mv) (h := ?_)
    refine WL.y (hy := asg) (h := ?_)
    refine WL.y (hy := asg) (h := ?_)
    refine nl (h := ?_)
    refine q_seq (h := ?_)
    refine rtn (h := ?_)
    refine q_then_ret (h := ?_)
    refine q_ret (hR := ?_)
    exact fun w hS => ⟨cdT' (fun x : List Value => Ending.returned (Value.tuple x.toArray)) h0, hS.sub (by repeat (first | exact SubL.nil | (apply SubL.cons; (repeat (first | exact At.here | apply At.there))) | exact SubL.refl _ | apply SubL.skip))⟩
  · skip
    have hf := chkF_ok h0
    refine skp (h := ?_)
    refine q_seq (h := ?_)
    refine sq (h := ?_)
    refine sq (h := ?_)
    refine rg (h := ?_)
    refine WL.y (hy := (by first | exact ldA | exact ldEA)) (h := ?_)
    refine cl0 (hc := fun w hS => C_isBoard _ _ _ _ w (hS.get (by repeat (first | exact Rds.ro | exact Rds.own | apply Rds.there))) (by omega)) (h := ?_)
    refine WL.y (hy := notB) (h := ?_)
    refine nl (h := ?_)
    refine q_seq (h := ?_)
    refine cd (by exact rfl) (fun h1 => ?_) (fun h1 => ?_)
    · skip
      refine sq (h := ?_)
      refine rg (h := ?_)
      refine WL.y (hy := asg) (h := ?_)
      refine WL.y (hy := asg) (h := ?_)
      refine nl (h := ?_)
      refine q_seq (h := ?_)
      refine rtn (h := ?_)
      refine q_then_ret (h := ?_)
      refine q_ret (hR := ?_)
      exact fun w hS => ⟨(cdT' (fun x : List Value => Ending.returned (Value.tuple x.toArray)) h1).trans (cdF' (fun x : List Value => Ending.returned (Value.tuple x.toArray)) h0), hS.sub (by repeat (first | exact SubL.nil | (apply SubL.cons; (repeat (first | exact At.here | apply At.there))) | exact SubL.refl _ | apply SubL.skip))⟩
    · skip
      have hbo : brdOk b = true := by simpa using h1
      have hbl := brd_len hbo
      have hbp := brd_fit hbo b.p (by simp [Brd.all])
      refine skp (h := ?_)
      refine q_seq (h := ?_)
      refine sq (h := ?_)
      refine rg (h := ?_)
      refine WL.y (hy := (by first | exact ldA | exact ldEA)) (h := ?_)
      refine WL.y (hy := bd) (h := ?_)
      refine WL.y (hy := (by first | exact ldA | exact ldEA)) (h := ?_)
      refine cl0 (hc := fun w hS => C_rules_arises f b hf (by omega) A n c w (hS.get (by repeat (first | exact Rds.ro | exact Rds.own | apply Rds.there))) (by omega)) (h := ?_)
      refine WL.y (hy := mv) (h := ?_)
      refine WL.y (hy := ex) (h := ?_)
      refine WL.y (hy := ex) (h := ?_)
      refine al (h := fun b2 => ?_)
      first | refine stA (h := ?_) | refine stEA (h := ?_)
      refine WL.y (hy := asg) (h := ?_)
      refine nl (h := ?_)
      refine q_seq (h := ?_)
      refine sq (h := ?_)
      refine rg (h := ?_)
      refine WL.y (hy := mv) (h := ?_)
      refine WL.y (hy := asg) (h := ?_)
      refine WL.y (hy := asg) (h := ?_)
      refine nl (h := ?_)
      refine q_seq (h := ?_)
      refine rtn (h := ?_)
      refine q_ret (hR := ?_)
      exact fun w hS => ⟨(cdF' (fun x : List Value => Ending.returned (Value.tuple x.toArray)) h1).trans (cdF' (fun x : List Value => Ending.returned (Value.tuple x.toArray)) h0), hS.sub (by repeat (first | exact SubL.nil | (apply SubL.cons; (repeat (first | exact At.here | apply At.there))) | exact SubL.refl _ | apply SubL.skip))⟩
theorem chk_val (f : Fmt) : chkF f = 0 ∨ chkF f = 10 := by
  unfold chkF
  cases fmtOk f
  · exact .inr rfl
  · exact .inl rfl
theorem chk_bad {f : Fmt} (h : (!decide (chkF f = 0)) = true) : chkF f = 10 := by
  rcases chk_val f with e | e
  · rw [e] at h; cases h
  · exact e
set_option maxRecDepth 100000 in
theorem C_ref1_Arises' (f : Fmt) (b : Brd) (A : Option Addr) (n c : Nat) (hc : n ≤ c) (w : World) (h : Rd w A 2 n (encP b.st)) (hn : n ≤ 1000) (r : Bool) (hr : (arisesV f b).2 = r) : C0 Try.prog 12 [f.val, b.val A n c] w (.tuple (bif !decide (chkF f = 0) then [.bool false, .int .i64 (chkF f)] else bif !brdOk b then [.bool false, .int .i64 12] else [.bool r, .int .i64 0] : List Value).toArray) := by
  have hlen : b.st.length = n := by have := h.len; simpa [encP] using this
  refine ⟨en Try.func12 Try.ntmps12 ((St.init w).share (e := .ro A 2 n (encP b.st)) h rfl rfl rfl) (h := fun F => ?_)⟩
  refine sq (h := ?_)
  refine rg (h := ?_)
  refine bxA (h := fun b0 => ?_)
  refine bxA (h := fun b1 => ?_)
  refine WL.y (hy := asg) (h := ?_)
  refine WL.y (hy := asg) (h := ?_)
  refine nl (h := ?_)
  refine q_seq (h := ?_)
  refine sq (h := ?_)
  refine sq (h := ?_)
  refine rg (h := ?_)
  refine WL.y (hy := (by first | exact ldA | exact ldEA)) (h := ?_)
  refine cl0 (hc := fun w hS => C_ref1_Check _ w) (h := ?_)
  refine WL.y (hy := neq) (h := ?_)
  refine nl (h := ?_)
  refine q_seq (h := ?_)
  refine cd (by exact rfl) (fun h0 => ?_) (fun h0 => ?_)
  · skip
    have hck := h0
    refine sq (h := ?_)
    refine rg (h := ?_)
    refine WL.y (hy := asg) (h := ?_)
    refine WL.y (hy := asg) (h := ?_)
    refine nl (h := ?_)
    refine q_seq (h := ?_)
    refine rtn (h := ?_)
    refine q_then_ret (h := ?_)
    refine q_ret (hR := ?_)
    exact fun w hS => ⟨by rw [chk_bad hck]; rfl, hS.sub (by repeat (first | exact SubL.nil | (apply SubL.cons; (repeat (first | exact At.here | apply At.there))) | exact SubL.refl _ | apply SubL.skip))⟩
  · skip
    have hf := chkF_ok h0
    refine skp (h := ?_)
    refine q_seq (h := ?_)
    refine sq (h := ?_)
    refine sq (h := ?_)
    refine rg (h := ?_)
    refine WL.y (hy := (by first | exact ldA | exact ldEA)) (h := ?_)
    refine cl0 (hc := fun w hS => C_ref1_isBoard b A n c w (hS.get (by repeat (first | exact Rds.ro | exact Rds.own | apply Rds.there))) hn) (h := ?_)
    refine WL.y (hy := notB) (h := ?_)
    refine nl (h := ?_)
    refine q_seq (h := ?_)
    refine cd (by exact rfl) (fun h1 => ?_) (fun h1 => ?_)
    · skip
      refine sq (h := ?_)
      refine rg (h := ?_)
      refine WL.y (hy := asg) (h := ?_)
      refine WL.y (hy := asg) (h := ?_)
      refine nl (h := ?_)
      refine q_seq (h := ?_)
      refine rtn (h := ?_)
      refine q_then_ret (h := ?_)
      refine q_ret (hR := ?_)
      exact fun w hS => ⟨(cdT' (fun x : List Value => Ending.returned (Value.tuple x.toArray)) h1).trans (cdF' (fun x : List Value => Ending.returned (Value.tuple x.toArray)) h0), hS.sub (by repeat (first | exact SubL.nil | (apply SubL.cons; (repeat (first | exact At.here | apply At.there))) | exact SubL.refl _ | apply SubL.skip))⟩
    · skip
      have hbo : brdOk b = true := by simpa using h1
      have hbl := brd_len hbo
      refine skp (h := ?_)
      refine q_seq (h := ?_)
      refine sq (h := ?_)
      refine rg (h := ?_)
      refine WL.y (hy := (by first | exact ldA | exact ldEA)) (h := ?_)
      refine WL.y (hy := (by first | exact ldA | exact ldEA)) (h := ?_)
      refine cl0 (hc := fun w hS => C_ref1_arises' (tableV f) f b (tbOk_table f) hf hbo A n c hc w (hS.get (by repeat (first | exact Rds.ro | exact Rds.own | apply Rds.there)))) (h := ?_)
      rw [show (arisesT (tableV f) f b).2 = r from hr]
      refine WL.y (hy := asg) (h := ?_)
      refine WL.y (hy := asg) (h := ?_)
      refine nl (h := ?_)
      refine q_seq (h := ?_)
      refine rtn (h := ?_)
      refine q_ret (hR := ?_)
      exact fun w hS => ⟨(cdF' (fun x : List Value => Ending.returned (Value.tuple x.toArray)) h1).trans (cdF' (fun x : List Value => Ending.returned (Value.tuple x.toArray)) h0), hS.sub (by repeat (first | exact SubL.nil | (apply SubL.cons; (repeat (first | exact At.here | apply At.there))) | exact SubL.refl _ | apply SubL.skip))⟩
theorem C_ref1_Arises (f : Fmt) (b : Brd) (A : Option Addr) (n c : Nat) (hc : n ≤ c) (w : World) (h : Rd w A 2 n (encP b.st)) (hn : n ≤ 1000) : C0 Try.prog 12 [f.val, b.val A n c] w (.tuple (arisesR f b).toArray) := C_ref1_Arises' f b A n c hc w h hn _ rfl

end Go.Proofs.Ytacaojifempclaa

namespace Go.Proofs.Ytacaojifempclaa
open Go Go.RowKit

section
variable {f : Fmt} {b : Brd}
theorem sets_won {tb : Pr → Tb} (htb : TbOk f tb) (hf : f.Ok) (hb : brdOk b = true) (hok : (setsTo tb f b.st b.st.length).ok = true) : ∀ k, k ≤ b.st.length → (setsTo tb f b.st k).won = wonTo b.st k
  | 0, _ => rfl
  | k + 1, hk => by
    have ih := sets_won htb hf hb hok k (by omega)
    have ho : ∀ j, j ≤ b.st.length → (setsTo tb f b.st j).ok = true := fun j hj => by
      cases e : (setsTo tb f b.st j).ok
      · rw [setsTo_stop e hj, e] at hok; cases hok
      · rfl
    have hp : b.st[k]? = some b.st[k] := List.getElem?_eq_getElem (by omega)
    have hpf := brd_fit hb b.st[k] (by simp only [Brd.all]; exact List.mem_append_left _ (List.getElem_mem _))
    exact (step_is htb hf hp (by omega) (ho k (by omega)) ih).2 (ho (k + 1) hk)
theorem arises_ok {tb : Pr → Tb} (h : (arisesT tb f b).2 = true) : (setsTo tb f b.st b.st.length).ok = true := by
  cases e : (setsTo tb f b.st b.st.length).ok
  · rw [arises_no e (Nat.le_refl _)] at h; cases h
  · rfl
theorem arises_facts' {tb : Pr → Tb} (htb : TbOk f tb) (hf : f.Ok) (hb : brdOk b = true) (h : (arisesT tb f b).2 = true) : (arisesT tb f b).1 = wonV b.st ∧ WonOk f (wonV b.st) ∧ (overV f (wonV b.st) = true ∨ (overV f (wonV b.st) = false ∧ OpenP f (setV f (wonV b.st)) b.g.1 b.g.2 ∧ arePts f (tiedV f b.st b.g) (setV f (wonV b.st)).2 b.p = true)) := by
  have hok := arises_ok h
  have hw := sets_won htb hf hb hok b.st.length (Nat.le_refl _)
  have h1 : (arisesT tb f b).1 = wonV b.st := by rw [arises_won]; exact hw
  have hs0 := hf.s0
  have h2 : WonOk f (wonV b.st) := by rw [← show _ = wonV b.st from hw]; exact setsTo_won (by omega) _
  refine ⟨h1, h2, ?_⟩
  cases hov : overV f (wonV b.st)
  · have hbp := brd_fit hb b.p (by simp [Brd.all])
    have hbg := brd_fit hb b.g (by simp [Brd.all])
    have hE := arises_pts htb hf hbg (by omega) hok hw hov
    rw [h] at hE
    have hE' := hE.symm
    rw [Bool.and_eq_true, decide_eq_true_eq] at hE'
    exact .inr ⟨rfl, (exp_open (tie_ok hf _) _ _).1 hE'.1, hE'.2⟩
  · exact .inl rfl
theorem arises_facts (hf : f.Ok) (hb : brdOk b = true) (h : (arisesV f b).2 = true) : (arisesV f b).1 = wonV b.st ∧ WonOk f (wonV b.st) ∧ (overV f (wonV b.st) = true ∨ (overV f (wonV b.st) = false ∧ OpenP f (setV f (wonV b.st)) b.g.1 b.g.2 ∧ arePts f (tiedV f b.st b.g) (setV f (wonV b.st)).2 b.p = true)) :=
  arises_facts' (tbOk_table f) hf hb h
theorem own_pair (side : Int) (p : Pr) : ownP side p = ((ownP side p).1, (ownP side p).2) := rfl
theorem brks_own {side : Int} (hs : side = 0 ∨ side = 1) (s g : Pr) : brksV s (ownP side g) = brksV s g := by
  rcases hs with rfl | rfl
  · rfl
  · show (decide (g.2 = s.1) && decide (g.1 = s.1)) = (decide (g.1 = s.1) && decide (g.2 = s.1))
    rw [Bool.and_comm]
end
end Go.Proofs.Ytacaojifempclaa

namespace Go.Proofs.Ytacaojifempclaa
open Go Go.RowKit

structure RS where
  (st : List Pr) (g p : Pr) (server ends balls winner first : Int) (gs : List Gm) (fresh : Bool)
abbrev RS.cells (r : RS) (sA : Option Addr) (sc : Nat) (gA : Option Addr) (gc : Nat) : List Value := [.slice sA r.st.length sc, .int .i64 r.g.1, .int .i64 r.g.2, .int .i64 r.p.1, .int .i64 r.p.2, .int .i64 r.server, .int .i64 r.ends, .int .i64 r.balls, .int .i64 r.winner, .int .i64 r.first, .slice gA r.gs.length gc, .bool r.fresh]
abbrev RS.val (r : RS) (sA : Option Addr) (sc : Nat) (gA : Option Addr) (gc : Nat) : Value := .agg #[.slice sA r.st.length sc, .int .i64 r.g.1, .int .i64 r.g.2, .int .i64 r.p.1, .int .i64 r.p.2, .int .i64 r.server, .int .i64 r.ends, .int .i64 r.balls, .int .i64 r.winner, .int .i64 r.first, .slice gA r.gs.length gc, .bool r.fresh]
structure RA where
  (sA gA : Option Addr) (sc gc : Nat)

end Go.Proofs.Ytacaojifempclaa

namespace Go.Proofs.Ytacaojifempclaa
open Go Go.RowKit

end Go.Proofs.Ytacaojifempclaa

namespace Go.Proofs.Ytacaojifempclaa
open Go Go.RowKit

end Go.Proofs.Ytacaojifempclaa

namespace Go.Proofs.Ytacaojifempclaa
open Go Go.RowKit

end Go.Proofs.Ytacaojifempclaa

namespace Go.Proofs.Ytacaojifempclaa
open Go Go.RowKit

end Go.Proofs.Ytacaojifempclaa

namespace Go.Proofs.Ytacaojifempclaa
open Go Go.RowKit

end Go.Proofs.Ytacaojifempclaa

namespace Go.Proofs.Ytacaojifempclaa
open Go Go.RowKit

end Go.Proofs.Ytacaojifempclaa

namespace Go.Proofs.Ytacaojifempclaa
open Go Go.RowKit

structure Ext where
  (low high pts : Int)
def extV (f : Fmt) (s : Pr) : Ext := bif decide (s.1 = 0) then ⟨1, 1, max s.2 2⟩ else bif decide (s.1 = -1) then ⟨max f.games 2, -1, 4 * max f.games 2⟩ else ⟨max f.games 2, 2 * s.1 + 1, 4 * max f.games 2⟩
def lastE (f : Fmt) : Ext := extV f (f.ltie, f.lto)
def eachE (f : Fmt) : Ext := extV f (f.tie, f.to)
def rangeE (f : Fmt) : Ext := bif decide (f.sets = 1) then lastE f else
  ⟨f.sets * (eachE f).low, bif decide (0 ≤ (lastE f).high) && decide (0 ≤ (eachE f).high) then (2 * f.sets - 2) * (eachE f).high + (lastE f).high else -1, f.sets * (eachE f).pts⟩
structure RuleOk (f : Fmt) (s : Pr) : Prop where
  t : s.1 = -1 ∨ s.1 = 0 ∨ s.1 = f.games - 1 ∨ s.1 = f.games
  o : 1 ≤ s.2 ∧ s.2 ≤ 15
theorem ext_zero {f : Fmt} {s : Pr} (h : s.1 = 0) : extV f s = ⟨1, 1, max s.2 2⟩ := by unfold extV; rw [decide_eq_true h]; rfl
theorem ext_none {f : Fmt} {s : Pr} (h : s.1 = -1) : extV f s = ⟨max f.games 2, -1, 4 * max f.games 2⟩ := by
  unfold extV; rw [decide_eq_false (by omega), decide_eq_true h]; rfl
theorem ext_some {f : Fmt} {s : Pr} (h : s.1 ≠ 0) (h' : s.1 ≠ -1) : extV f s = ⟨max f.games 2, 2 * s.1 + 1, 4 * max f.games 2⟩ := by
  unfold extV; rw [decide_eq_false h, decide_eq_false h']; rfl
theorem ext_bd {f : Fmt} (hf : f.Ok) {s : Pr} (h : RuleOk f s) : 1 ≤ (extV f s).low ∧ (extV f s).low ≤ 8 ∧ (extV f s).high ≤ 17 ∧ -1 ≤ (extV f s).high ∧ 1 ≤ (extV f s).pts ∧ (extV f s).pts ≤ 32 ∧ (0 ≤ (extV f s).high → (extV f s).low ≤ (extV f s).high) := by
  have h1 := hf.g0
  have h2 := hf.g1
  have h3 := h.t
  have h4 := h.o
  by_cases a : s.1 = 0
  · rw [ext_zero a]; simp only; omega
  · by_cases b : s.1 = -1
    · rw [ext_none b]; simp only; omega
    · rw [ext_some a b]; simp only; omega

theorem last_ok {f : Fmt} (hf : f.Ok) : RuleOk f (f.ltie, f.lto) := ⟨hf.lt, hf.l0, hf.l1⟩
theorem each_ok {f : Fmt} (hf : f.Ok) : RuleOk f (f.tie, f.to) := ⟨hf.t, hf.o0, hf.o1⟩
theorem range_one {f : Fmt} (h : f.sets = 1) : rangeE f = lastE f := by unfold rangeE; rw [decide_eq_true h]; rfl
theorem range_more {f : Fmt} (h : ¬ f.sets = 1) : (rangeE f).low = f.sets * (eachE f).low ∧ (rangeE f).pts = f.sets * (eachE f).pts ∧ (rangeE f).high = bif decide (0 ≤ (lastE f).high) && decide (0 ≤ (eachE f).high) then (2 * f.sets - 2) * (eachE f).high + (lastE f).high else -1 := by
  unfold rangeE; rw [decide_eq_false h]; exact ⟨rfl, rfl, rfl⟩
end Go.Proofs.Ytacaojifempclaa

namespace Go.Proofs.Ytacaojifempclaa
open Go Go.RowKit

end Go.Proofs.Ytacaojifempclaa

namespace Go.Proofs.Ytacaojifempclaa
open Go Go.RowKit

abbrev Ext.val (e : Ext) : Value := .tuple #[.agg #[.int .i64 e.low, .int .i64 e.high], .int .i64 e.pts]
theorem C_rules_extent (f : Fmt) (s : Pr) (hf : f.Ok) (hr : RuleOk f s) (w : World) : C0 Try.prog 108 [f.val, pv s] w (extV f s).val := by
  have h1 := hf.g0
  have h2 := hf.g1
  have h3 := hr.t
  have h4 := hr.o
  refine ⟨en Try.func108 Try.ntmps108 (St.init w) (h := fun F => ?_)⟩
  refine sq (h := ?_)
  refine rg (h := ?_)
  refine bxA (h := fun b0 => ?_)
  refine bxA (h := fun b1 => ?_)
  refine al (h := fun b2 => ?_)
  refine WL.y (hy := asg) (h := ?_)
  refine nl (h := ?_)
  refine q_seq (h := ?_)
  refine sq (h := ?_)
  refine rgD (by kernel_rfl) [(1000000, .blk b0 80 f.cells), (1000000, .blk b1 137 [.int .i64 s.1, .int .i64 s.2])] (by repeat (first | exact HS.nil | (apply HS.keep; (repeat (first | exact At.here | apply At.there))) | (apply HS.ro; (repeat (first | exact Rds.ro | exact Rds.own | apply Rds.there))))) (h := ?_)
  refine tk 0 (hy := (by first | exact fa | exact faE)) (h := ?_)
  refine tk 1 (hy := (by first | exact ld | exact ldE)) (h := ?_)
  refine tk 2 (hy := maxI) (h := ?_)
  refine tk 3 (hy := (by first | exact fa | exact faE)) (h := ?_)
  refine tk 4 (hy := (by first | exact fa | exact faE)) (h := ?_)
  refine tk 5 (hy := (by first | exact ld | exact ldE)) (h := ?_)
  refine tk 6 (hy := maxI) (h := ?_)
  refine tk 7 (hy := asg) (h := ?_)
  refine tk 8 (hy := asg) (h := ?_)
  refine dn (h := ?_)
  refine q_seq (h := ?_)
  refine sq (h := ?_)
  refine sq (h := ?_)
  refine rg (h := ?_)
  refine WL.y (hy := (by first | exact fa | exact faE)) (h := ?_)
  refine WL.y (hy := (by first | exact ld | exact ldE)) (h := ?_)
  refine nl (h := ?_)
  refine q_seq (h := ?_)
  refine bk (h := ?_)
  refine sq (h := ?_)
  refine rg (h := ?_)
  refine WL.y (hy := eql) (h := ?_)
  refine WL.y (hy := asg) (h := ?_)
  refine nl (h := ?_)
  refine q_seq (h := ?_)
  refine cd (by exact rfl) (fun h0 => ?_) (fun h0 => ?_)
  · skip
    have hE := ext_zero (f := f) (of_decide_eq_true h0)
    refine sq (h := ?_)
    refine rg (h := ?_)
    refine WL.y (hy := bd) (h := ?_)
    refine WL.y (hy := mv) (h := ?_)
    first | refine stA (h := ?_) | refine stEA (h := ?_)
    refine WL.y (hy := asg) (h := ?_)
    refine nl (h := ?_)
    refine q_seq (h := ?_)
    refine rtn (h := ?_)
    refine q_blk_ret (h := ?_)
    refine q_then_ret (h := ?_)
    refine q_ret (hR := ?_)
    rw [hE]
    exact fun w hS => ⟨rfl, hS.sub (by repeat (first | exact SubL.nil | (apply SubL.cons; (repeat (first | exact At.here | apply At.there))) | exact SubL.refl _ | apply SubL.skip))⟩
  · skip
    have hz := of_decide_eq_false h0
    refine sq (h := ?_)
    refine rg (h := ?_)
    refine WL.y (hy := eql) (h := ?_)
    refine WL.y (hy := asg) (h := ?_)
    refine nl (h := ?_)
    refine q_seq (h := ?_)
    refine cd (by exact rfl) (fun h1 => ?_) (fun h1 => ?_)
    · skip
      have hE := ext_none (f := f) (of_decide_eq_true h1)
      refine sq (h := ?_)
      refine rg (h := ?_)
      refine WL.y (hy := mv) (h := ?_)
      refine WL.y (hy := bd) (h := ?_)
      refine WL.y (hy := mv) (h := ?_)
      refine WL.y (hy := mulI) (h := ?_)
      first | refine stA (h := ?_) | refine stEA (h := ?_)
      refine WL.y (hy := asg) (h := ?_)
      refine nl (h := ?_)
      refine q_seq (h := ?_)
      refine rtn (h := ?_)
      refine q_blk_ret (h := ?_)
      refine q_then_ret (h := ?_)
      refine q_ret (hR := ?_)
      rw [hE]
      exact fun w hS => ⟨rfl, hS.sub (by repeat (first | exact SubL.nil | (apply SubL.cons; (repeat (first | exact At.here | apply At.there))) | exact SubL.refl _ | apply SubL.skip))⟩
    · skip
      have hE := ext_some (f := f) hz (of_decide_eq_false h1)
      refine skp (h := ?_)
      refine q_blk_norm (h := ?_)
      refine q_seq (h := ?_)
      refine sq (h := ?_)
      refine rg (h := ?_)
      refine WL.y (hy := mv) (h := ?_)
      refine WL.y (hy := (by first | exact fa | exact faE)) (h := ?_)
      refine WL.y (hy := (by first | exact ld | exact ldE)) (h := ?_)
      refine WL.y (hy := mulI) (h := ?_)
      refine WL.y (hy := addI) (h := ?_)
      refine WL.y (hy := bd) (h := ?_)
      refine WL.y (hy := mv) (h := ?_)
      refine WL.y (hy := mulI) (h := ?_)
      first | refine stA (h := ?_) | refine stEA (h := ?_)
      refine WL.y (hy := asg) (h := ?_)
      refine nl (h := ?_)
      refine q_seq (h := ?_)
      refine rtn (h := ?_)
      refine q_ret (hR := ?_)
      rw [hE]
      exact fun w hS => ⟨rfl, hS.sub (by repeat (first | exact SubL.nil | (apply SubL.cons; (repeat (first | exact At.here | apply At.there))) | exact SubL.refl _ | apply SubL.skip))⟩
def rangeR (f : Fmt) : List Value := bif decide (chkF f = 0) then [.agg #[.int .i64 (rangeE f).low, .int .i64 (rangeE f).high], .int .i64 (rangeE f).pts, .int .i64 0] else [.agg #[.int .i64 0, .int .i64 0], .int .i64 0, .int .i64 (chkF f)]
theorem C_score_Range (f : Fmt) (w : World) : C0 Try.prog 95 [f.val] w (.tuple (rangeR f).toArray) := by
  refine ⟨en Try.func95 Try.ntmps95 (St.init w) (h := fun F => ?_)⟩
  refine sq (h := ?_)
  refine rg (h := ?_)
  refine bxA (h := fun b0 => ?_)
  refine al (h := fun b1 => ?_)
  refine WL.y (hy := asg) (h := ?_)
  refine WL.y (hy := asg) (h := ?_)
  refine nl (h := ?_)
  refine q_seq (h := ?_)
  refine sq (h := ?_)
  refine sq (h := ?_)
  refine rg (h := ?_)
  refine WL.y (hy := (by first | exact ldA | exact ldEA)) (h := ?_)
  refine cl0 (hc := fun w hS => C_score_Check _ w) (h := ?_)
  refine WL.y (hy := asg) (h := ?_)
  refine nl (h := ?_)
  refine q_seq (h := ?_)
  refine sq (h := ?_)
  refine rg (h := ?_)
  refine WL.y (hy := mv) (h := ?_)
  refine WL.y (hy := neq) (h := ?_)
  refine nl (h := ?_)
  refine q_seq (h := ?_)
  refine cd (by exact rfl) (fun h0 => ?_) (fun h0 => ?_)
  · skip
    have hR : rangeR f = [.agg #[.int .i64 0, .int .i64 0], .int .i64 0, .int .i64 (chkF f)] := by
      have h' : decide (chkF f = 0) = false := by simpa using h0
      rw [rangeR, h']; rfl
    refine sq (h := ?_)
    refine rg (h := ?_)
    refine WL.y (hy := bd) (h := ?_)
    refine WL.y (hy := mv) (h := ?_)
    first | refine stA (h := ?_) | refine stEA (h := ?_)
    refine WL.y (hy := asg) (h := ?_)
    refine WL.y (hy := asg) (h := ?_)
    refine nl (h := ?_)
    refine q_seq (h := ?_)
    refine rtn (h := ?_)
    refine q_then_ret (h := ?_)
    refine q_ret (hR := ?_)
    rw [hR]
    exact fun w hS => ⟨rfl, hS.sub (by repeat (first | exact SubL.nil | (apply SubL.cons; (repeat (first | exact At.here | apply At.there))) | exact SubL.refl _ | apply SubL.skip))⟩
  · skip
    have hf := chkF_ok h0
    have hc : decide (chkF f = 0) = true := by simpa using h0
    have hR0 : rangeR f = [.agg #[.int .i64 (rangeE f).low, .int .i64 (rangeE f).high], .int .i64 (rangeE f).pts, .int .i64 0] := by rw [rangeR, hc]; rfl
    obtain ⟨l1, l2, l3, l4, l5, l6, -⟩ := ext_bd hf (last_ok hf)
    obtain ⟨e1, e2, e3, e4, e5, e6, -⟩ := ext_bd hf (each_ok hf)
    have hs0 := hf.s0
    have hs1 := hf.s1
    refine skp (h := ?_)
    refine q_seq (h := ?_)
    refine sq (h := ?_)
    refine rg (h := ?_)
    refine WL.y (hy := (by first | exact ldA | exact ldEA)) (h := ?_)
    refine WL.y (hy := bd) (h := ?_)
    refine al (h := fun b2 => ?_)
    first | refine stA (h := ?_) | refine stEA (h := ?_)
    refine nl (h := ?_)
    refine q_seq (h := ?_)
    refine sq (h := ?_)
    refine rg (h := ?_)
    refine WL.y (hy := (by first | exact ldA | exact ldEA)) (h := ?_)
    refine WL.y (hy := (by first | exact fa | exact faE)) (h := ?_)
    refine WL.y (hy := (by first | exact ld | exact ldE)) (h := ?_)
    refine WL.y (hy := (by first | exact fa | exact faE)) (h := ?_)
    refine WL.y (hy := (by first | exact ld | exact ldE)) (h := ?_)
    refine WL.y (hy := bd) (h := ?_)
    refine cl0 (hc := fun w hS => C_rules_extent f (f.ltie, f.lto) hf (last_ok hf) w) (h := ?_)
    refine WL.y (hy := mv) (h := ?_)
    refine WL.y (hy := ex) (h := ?_)
    refine WL.y (hy := ex) (h := ?_)
    refine al (h := fun b3 => ?_)
    first | refine stA (h := ?_) | refine stEA (h := ?_)
    refine WL.y (hy := asg) (h := ?_)
    refine nl (h := ?_)
    refine q_seq (h := ?_)
    refine sq (h := ?_)
    refine sq (h := ?_)
    refine rg (h := ?_)
    refine WL.y (hy := (by first | exact fa | exact faE)) (h := ?_)
    refine WL.y (hy := (by first | exact ld | exact ldE)) (h := ?_)
    refine WL.y (hy := eql) (h := ?_)
    refine nl (h := ?_)
    refine q_seq (h := ?_)
    refine cd (by exact rfl) (fun h1 => ?_) (fun h1 => ?_)
    · skip
      have hR : rangeR f = [.agg #[.int .i64 (lastE f).low, .int .i64 (lastE f).high], .int .i64 (lastE f).pts, .int .i64 0] := by rw [hR0, range_one (of_decide_eq_true h1)]
      refine sq (h := ?_)
      refine rg (h := ?_)
      refine WL.y (hy := (by first | exact ldA | exact ldEA)) (h := ?_)
      refine WL.y (hy := mv) (h := ?_)
      first | refine stA (h := ?_) | refine stEA (h := ?_)
      refine WL.y (hy := asg) (h := ?_)
      refine WL.y (hy := asg) (h := ?_)
      refine nl (h := ?_)
      refine q_seq (h := ?_)
      refine rtn (h := ?_)
      refine q_then_ret (h := ?_)
      refine q_ret (hR := ?_)
      rw [hR]
      exact fun w hS => ⟨rfl, hS.sub (by repeat (first | exact SubL.nil | (apply SubL.cons; (repeat (first | exact At.here | apply At.there))) | exact SubL.refl _ | apply SubL.skip))⟩
    · skip
      obtain ⟨q1, q2, q3⟩ := range_more (of_decide_eq_false h1)
      have hs23 : f.sets = 2 ∨ f.sets = 3 := by have := of_decide_eq_false h1; omega
      have m1 : -9223372036854775808 ≤ f.sets * (eachE f).low ∧ f.sets * (eachE f).low ≤ 9223372036854775807 := by unfold eachE; rcases hs23 with h | h <;> rw [h] <;> omega
      have m2 : -9223372036854775808 ≤ f.sets * (eachE f).pts ∧ f.sets * (eachE f).pts ≤ 9223372036854775807 := by unfold eachE; rcases hs23 with h | h <;> rw [h] <;> omega
      have m3 : -1000 ≤ (2 * f.sets - 2) * (eachE f).high ∧ (2 * f.sets - 2) * (eachE f).high ≤ 1000 := by unfold eachE; rcases hs23 with h | h <;> rw [h] <;> omega
      refine skp (h := ?_)
      refine q_seq (h := ?_)
      refine sq (h := ?_)
      refine rg (h := ?_)
      refine WL.y (hy := (by first | exact ldA | exact ldEA)) (h := ?_)
      refine WL.y (hy := (by first | exact fa | exact faE)) (h := ?_)
      refine WL.y (hy := (by first | exact ld | exact ldE)) (h := ?_)
      refine WL.y (hy := (by first | exact fa | exact faE)) (h := ?_)
      refine WL.y (hy := (by first | exact ld | exact ldE)) (h := ?_)
      refine WL.y (hy := bd) (h := ?_)
      refine cl0 (hc := fun w hS => C_rules_extent f (f.tie, f.to) hf (each_ok hf) w) (h := ?_)
      refine WL.y (hy := mv) (h := ?_)
      refine WL.y (hy := ex) (h := ?_)
      refine WL.y (hy := ex) (h := ?_)
      refine al (h := fun be => ?_)
      first | refine stA (h := ?_) | refine stEA (h := ?_)
      refine WL.y (hy := asg) (h := ?_)
      refine nl (h := ?_)
      refine q_seq (h := ?_)
      refine sq (h := ?_)
      refine rg (h := ?_)
      refine WL.y (hy := asg) (h := ?_)
      refine nl (h := ?_)
      refine q_seq (h := ?_)
      refine sq (h := ?_)
      refine sq (h := ?_)
      refine rg (h := ?_)
      refine WL.y (hy := (by first | exact fa | exact faE)) (h := ?_)
      refine WL.y (hy := (by first | exact ld | exact ldE)) (h := ?_)
      refine WL.y (hy := geq) (h := ?_)
      refine WL.y (hy := mv) (h := ?_)
      apply brAnd 4 48 52 (by exact rfl)
      · intro hb2
        refine un (h := ?_)
        refine WL.y (hy := (by first | exact fa | exact faE)) (h := ?_)
        refine un (h := ?_)
        refine WL.y (hy := (by first | exact ld | exact ldE)) (h := ?_)
        refine un (h := ?_)
        refine WL.y (hy := geq) (h := ?_)
        refine WL.y (hy := (by first | exact pkT | exact pkF)) (h := ?_)
        exact mg (by repeat (first | exact trivial | refine ⟨rfl, ?_⟩ | refine ⟨by rw [hb2]; rfl, ?_⟩)) (by repeat (first | exact SubL.nil | (apply SubL.cons; (repeat (first | exact At.here | apply At.there))) | exact SubL.refl _ | apply SubL.skip))
      · intro hb2
        repeat (first | refine un (h := ?_) | refine sk (h := ?_) | refine WL.y (hy := pkF) (h := ?_) | refine WL.y (hy := pkT) (h := ?_))
        exact mg (by repeat (first | exact trivial | refine ⟨rfl, ?_⟩ | refine ⟨by rw [hb2]; rfl, ?_⟩)) (by repeat (first | exact SubL.nil | (apply SubL.cons; (repeat (first | exact At.here | apply At.there))) | exact SubL.refl _ | apply SubL.skip))
      refine nl (h := ?_)
      refine q_seq (h := ?_)
      refine cd (by exact rfl) (fun h3 => ?_) (fun h3 => ?_)
      · skip
        have hR : rangeR f = [.agg #[.int .i64 (f.sets * (eachE f).low), .int .i64 ((2 * f.sets - 2) * (eachE f).high + (lastE f).high)], .int .i64 (f.sets * (eachE f).pts), .int .i64 0] := by
          have h' : (decide (0 ≤ (lastE f).high) && decide (0 ≤ (eachE f).high)) = true := h3
          rw [hR0, q1, q2, q3, h']; rfl
        refine rg (h := ?_)
        refine WL.y (hy := (by first | exact fa | exact faE)) (h := ?_)
        refine WL.y (hy := (by first | exact ld | exact ldE)) (h := ?_)
        refine WL.y (hy := mulI) (h := ?_)
        refine WL.y (hy := subI) (h := ?_)
        refine WL.y (hy := (by first | exact fa | exact faE)) (h := ?_)
        refine WL.y (hy := (by first | exact ld | exact ldE)) (h := ?_)
        refine WL.y (hy := mulI (a := 2 * f.sets - 2) (b := (eachE f).high) (hb := by omega)) (h := ?_)
        refine WL.y (hy := (by first | exact fa | exact faE)) (h := ?_)
        refine WL.y (hy := (by first | exact ld | exact ldE)) (h := ?_)
        refine WL.y (hy := addI (a := (2 * f.sets - 2) * (eachE f).high) (b := (lastE f).high) (hb := by unfold lastE; omega)) (h := ?_)
        refine WL.y (hy := asg) (h := ?_)
        refine nl (h := ?_)
        refine q_seq (h := ?_)
        refine sq (h := ?_)
        refine rgD (by kernel_rfl) [(1000000, .blk b0 23 f.cells), (1000000, .blk be 39 [.int .i64 (eachE f).low, .int .i64 (eachE f).high])] (by repeat (first | exact HS.nil | (apply HS.keep; (repeat (first | exact At.here | apply At.there))) | (apply HS.ro; (repeat (first | exact Rds.ro | exact Rds.own | apply Rds.there))))) (h := ?_)
        refine tk 0 (hy := (by first | exact fa | exact faE)) (h := ?_)
        refine tk 1 (hy := (by first | exact ld | exact ldE)) (h := ?_)
        refine tk 2 (hy := (by first | exact fa | exact faE)) (h := ?_)
        refine tk 3 (hy := (by first | exact ld | exact ldE)) (h := ?_)
        refine tk 4 (hy := mulI (b := (eachE f).low) (hb := m1)) (h := ?_)
        refine tk 5 (hy := mv) (h := ?_)
        refine tk 6 (hy := bd) (h := ?_)
        refine tk 7 (hy := (by first | exact fa | exact faE)) (h := ?_)
        refine tk 8 (hy := (by first | exact ld | exact ldE)) (h := ?_)
        refine tk 9 (hy := mv) (h := ?_)
        refine tk 10 (hy := mulI (b := (eachE f).pts) (hb := m2)) (h := ?_)
        refine one 11 (h := ?_)
        first | refine stA (h := ?_) | refine stEA (h := ?_)
        refine nx (h := ?_)
        refine tk 12 (hy := asg) (h := ?_)
        refine tk 13 (hy := asg) (h := ?_)
        refine dn (h := ?_)
        refine q_seq (h := ?_)
        refine rtn (h := ?_)
        refine q_ret (hR := ?_)
        rw [hR]
        exact fun w hS => ⟨rfl, hS.sub (by repeat (first | exact SubL.nil | (apply SubL.cons; (repeat (first | exact At.here | apply At.there))) | exact SubL.refl _ | apply SubL.skip))⟩
      · skip
        have hR : rangeR f = [.agg #[.int .i64 (f.sets * (eachE f).low), .int .i64 (-1)], .int .i64 (f.sets * (eachE f).pts), .int .i64 0] := by
          have h' : (decide (0 ≤ (lastE f).high) && decide (0 ≤ (eachE f).high)) = false := h3
          rw [hR0, q1, q2, q3, h']; rfl
        refine skp (h := ?_)
        refine q_seq (h := ?_)
        refine sq (h := ?_)
        refine rgD (by kernel_rfl) [(1000000, .blk b0 23 f.cells), (1000000, .blk be 39 [.int .i64 (eachE f).low, .int .i64 (eachE f).high])] (by repeat (first | exact HS.nil | (apply HS.keep; (repeat (first | exact At.here | apply At.there))) | (apply HS.ro; (repeat (first | exact Rds.ro | exact Rds.own | apply Rds.there))))) (h := ?_)
        refine tk 0 (hy := (by first | exact fa | exact faE)) (h := ?_)
        refine tk 1 (hy := (by first | exact ld | exact ldE)) (h := ?_)
        refine tk 2 (hy := (by first | exact fa | exact faE)) (h := ?_)
        refine tk 3 (hy := (by first | exact ld | exact ldE)) (h := ?_)
        refine tk 4 (hy := mulI (b := (eachE f).low) (hb := m1)) (h := ?_)
        refine tk 5 (hy := mv) (h := ?_)
        refine tk 6 (hy := bd) (h := ?_)
        refine tk 7 (hy := (by first | exact fa | exact faE)) (h := ?_)
        refine tk 8 (hy := (by first | exact ld | exact ldE)) (h := ?_)
        refine tk 9 (hy := mv) (h := ?_)
        refine tk 10 (hy := mulI (b := (eachE f).pts) (hb := m2)) (h := ?_)
        refine one 11 (h := ?_)
        first | refine stA (h := ?_) | refine stEA (h := ?_)
        refine nx (h := ?_)
        refine tk 12 (hy := asg) (h := ?_)
        refine tk 13 (hy := asg) (h := ?_)
        refine dn (h := ?_)
        refine q_seq (h := ?_)
        refine rtn (h := ?_)
        refine q_ret (hR := ?_)
        rw [hR]
        exact fun w hS => ⟨rfl, hS.sub (by repeat (first | exact SubL.nil | (apply SubL.cons; (repeat (first | exact At.here | apply At.there))) | exact SubL.refl _ | apply SubL.skip))⟩

end Go.Proofs.Ytacaojifempclaa

namespace Go.Proofs.Ytacaojifempclaa
open Go Go.RowKit

abbrev Cs := Pr × Pr
abbrev ccs (c : Cs) : List Value := [.int .i64 c.1.1, .int .i64 c.1.2, .int .i64 c.2.1, .int .i64 c.2.2]
abbrev cv (c : Cs) : Value := .agg #[.int .i64 c.1.1, .int .i64 c.1.2, .int .i64 c.2.1, .int .i64 c.2.2]
def wideV (a b : Pr) : Pr := (min a.1 b.1, max a.2 b.2)
def orV (a b : Cs) : Cs := (wideV a.1 b.1, wideV a.2 b.2)
def zC : Cs := ((0, 0), (0, 0))
theorem wide_comm (a b : Pr) : wideV a b = wideV b a := by unfold wideV; rw [Int.min_comm, Int.max_comm]
theorem or_comm (a b : Cs) : orV a b = orV b a := by unfold orV; rw [wide_comm a.1, wide_comm a.2]
def bz (b : Bool) : Int := bif b then 1 else 0
theorem bz_rng (b : Bool) : 0 ≤ bz b ∧ bz b ≤ 1 := by cases b <;> decide
def bumpC (c : Cs) (ch st : Bool) : Cs := ((c.1.1 + bz ch, c.1.2 + bz ch), (c.2.1 + bz st, c.2.2 + bz st))
def tieN (f : Fmt) (won g : Pr) : Int := bif brksV (setV f won) g then 1 else 0
def endS (f : Fmt) (won g : Pr) (side : Int) : Bool := EO f (setV f won) (ownP side g).1 (ownP side g).2
def wonS (f : Fmt) (won g : Pr) (side : Int) : Pr := bif endS f won g side then addV won side else won
def gamS (f : Fmt) (won g : Pr) (side : Int) : Pr := bif endS f won g side then (0, 0) else addV g side
def overS (f : Fmt) (won g : Pr) (side : Int) : Bool := endS f won g side && decide ((ownP side (addV won side)).1 = f.sets)
def chgV (f : Fmt) (n t1 : Int) (won g : Pr) : Bool := dueV f (n + 1) && !brksV (setV f won) g || decide (t1 = 1) && dueV f (n - 1)
def courV (rec : Pr → Pr → Int → Int → Cs) (f : Fmt) (won g : Pr) (n t1 side : Int) : Cs :=
  bif overS f won g side then zC else bumpC (rec (wonS f won g side) (gamS f won g side) (n + 1) (tieN f won g)) (chgV f n t1 (wonS f won g side) (gamS f won g side)) (endS f won g side)
def fromF (f : Fmt) : Nat → Pr → Pr → Int → Int → Cs
  | 0, _, _, _, _ => zC
  | k + 1, won, g, n, t1 => orV (courV (fromF f k) f won g n t1 0) (courV (fromF f k) f won g n t1 1)
def Bdd (f : Fmt) : Prop := 0 ≤ f.ltie ∧ (f.sets = 1 ∨ 0 ≤ f.tie)
def Vs (f : Fmt) (won g : Pr) : Prop := ((0 ≤ won.1 ∧ won.1 < f.sets) ∧ 0 ≤ won.2 ∧ won.2 < f.sets) ∧ OpenP f (setV f won) g.1 g.2
def remV (f : Fmt) (won g : Pr) : Int := (2 * f.sets - 2 - won.1 - won.2) * (2 * f.tie + 1) + 2 * f.ltie + 1 - g.1 - g.2
section
variable {f : Fmt}
theorem open_sum {s : Pr} (ht : TieOk f s) (h0 : 0 ≤ s.1) {a b : Int} (h : OpenP f s a b) : a + b ≤ 2 * s.1 ∧ (a ≤ f.games ∧ b ≤ f.games) := by
  unfold TieOk at ht; unfold OpenP at h; omega
theorem set_last {won : Pr} (h1 : won.1 = f.sets - 1) (h2 : won.2 = f.sets - 1) : setV f won = (f.ltie, f.lto) := by
  unfold setV; rw [decide_eq_true h1, decide_eq_true h2]; rfl
theorem set_each {won : Pr} (h : ¬ (won.1 = f.sets - 1 ∧ won.2 = f.sets - 1)) : setV f won = (f.tie, f.to) := by
  unfold setV
  by_cases h1 : won.1 = f.sets - 1
  · rw [decide_eq_true h1, decide_eq_false (fun h2 => h ⟨h1, h2⟩)]; rfl
  · rw [decide_eq_false h1]; rfl
theorem bdd_set (hb : Bdd f) {won : Pr} (hw : (0 ≤ won.1 ∧ won.1 < f.sets) ∧ 0 ≤ won.2 ∧ won.2 < f.sets) : 0 ≤ (setV f won).1 := by
  by_cases h : won.1 = f.sets - 1 ∧ won.2 = f.sets - 1
  · rw [set_last h.1 h.2]; exact hb.1
  · rw [set_each h]
    rcases hb.2 with h1 | h1
    · omega
    · exact h1
theorem mul_ge {d e : Int} (hd : 1 ≤ d) (he : 0 ≤ e) : e ≤ d * e := by
  have h := Int.mul_nonneg (show 0 ≤ d - 1 by omega) he
  rw [Int.sub_mul, Int.one_mul] at h
  omega
theorem addB_sum (p : Pr) (side : Int) : (addV p side).1 + (addV p side).2 = p.1 + p.2 + 1 := by
  unfold addV; cases decide (side = 0)
  · show p.1 + (p.2 + 1) = _; omega
  · show p.1 + 1 + p.2 = _; omega
theorem rem_pos (hf : f.Ok) (hb : Bdd f) {won g : Pr} (h : Vs f won g) : 1 ≤ remV f won g := by
  have ho := open_sum (tie_ok hf won) (bdd_set hb h.1) h.2
  have hw := h.1
  unfold remV
  by_cases hl : won.1 = f.sets - 1 ∧ won.2 = f.sets - 1
  · rw [set_last hl.1 hl.2] at ho
    dsimp only at ho
    rw [show 2 * f.sets - 2 - won.1 - won.2 = 0 by omega, Int.zero_mul]; omega
  · rw [set_each hl] at ho
    dsimp only at ho
    have h0 := hb.1
    have h2 : 0 ≤ f.tie := by rcases hb.2 with h1 | h1 <;> omega
    have hm := mul_ge (d := 2 * f.sets - 2 - won.1 - won.2) (e := 2 * f.tie + 1) (by omega) (by omega)
    omega
theorem end_open (hf : f.Ok) {won g : Pr} {side : Int} (hs : side = 0 ∨ side = 1) (h : OpenP f (setV f won) g.1 g.2) (he : endS f won g side = false) : OpenP f (setV f won) (addV g side).1 (addV g side).2 := by
  have ht := tie_ok hf won
  rcases hs with rfl | rfl
  · exact open_next ht h ((eo_is ht h).symm.trans he)
  · exact open_next' ht h ((eo_is' ht h).symm.trans he)
theorem step_ok' (hf : f.Ok) (hb : Bdd f) {won g : Pr} {side : Int} (hs : side = 0 ∨ side = 1) (h : Vs f won g) (ho : overS f won g side = false) : Vs f (wonS f won g side) (gamS f won g side) ∧ remV f (wonS f won g side) (gamS f won g side) ≤ remV f won g - 1 := by
  have hw := h.1
  unfold wonS gamS
  cases he : endS f won g side
  · have h1 := end_open hf hs h.2 he
    have h2 := addB_sum g side
    simp only [cond_false]
    refine ⟨⟨hw, h1⟩, ?_⟩
    unfold remV
    omega
  · rw [overS, he, Bool.true_and, decide_eq_false_iff_not] at ho
    have hao : (0 ≤ (addV won side).1 ∧ (addV won side).1 < f.sets) ∧ 0 ≤ (addV won side).2 ∧ (addV won side).2 < f.sets := by
      rcases hs with rfl | rfl
      · have h1 : ¬ won.1 + 1 = f.sets := ho
        show (0 ≤ won.1 + 1 ∧ won.1 + 1 < f.sets) ∧ 0 ≤ won.2 ∧ won.2 < f.sets
        omega
      · have h1 : ¬ won.2 + 1 = f.sets := ho
        show (0 ≤ won.1 ∧ won.1 < f.sets) ∧ 0 ≤ won.2 + 1 ∧ won.2 + 1 < f.sets
        omega
    have h2 := addB_sum won side
    have hsum := open_sum (tie_ok hf won) (bdd_set hb hw) h.2
    simp only [cond_true]
    refine ⟨⟨hao, open0 (tie_ok hf _)⟩, ?_⟩
    have hnl : ¬ (won.1 = f.sets - 1 ∧ won.2 = f.sets - 1) := by omega
    rw [set_each hnl] at hsum
    unfold remV
    rw [show 2 * f.sets - 2 - (addV won side).1 - (addV won side).2 = (2 * f.sets - 2 - won.1 - won.2) - 1 by omega, Int.sub_mul, Int.one_mul]
    dsimp only at hsum ⊢
    omega
theorem cour_congr (hf : f.Ok) (hb : Bdd f) {won g : Pr} {n t1 side : Int} (hs : side = 0 ∨ side = 1) (h : Vs f won g) {r1 r2 : Pr → Pr → Int → Int → Cs} (hr : ∀ won' g' n' t', Vs f won' g' → remV f won' g' ≤ remV f won g - 1 → n' = n + 1 → r1 won' g' n' t' = r2 won' g' n' t') : courV r1 f won g n t1 side = courV r2 f won g n t1 side := by
  unfold courV
  cases ho : overS f won g side
  · obtain ⟨h1, h2⟩ := step_ok' hf hb hs h ho
    rw [hr _ _ _ _ h1 h2 rfl]
  · rfl
theorem from_more (hf : f.Ok) (hb : Bdd f) : ∀ (k m : Nat) (won g : Pr) (n t1 : Int), Vs f won g → remV f won g ≤ k → remV f won g ≤ m → fromF f k won g n t1 = fromF f m won g n t1
  | 0, m, won, g, n, t1, h, h1, _ => by have := rem_pos hf hb h; omega
  | k + 1, 0, won, g, n, t1, h, _, h2 => by have := rem_pos hf hb h; omega
  | k + 1, m + 1, won, g, n, t1, h, h1, h2 => by
    rw [fromF, fromF, cour_congr hf hb (.inl rfl) h (fun w' g' n' t' hv hr _ => from_more hf hb k m w' g' n' t' hv (by omega) (by omega)), cour_congr hf hb (.inr rfl) h (fun w' g' n' t' hv hr _ => from_more hf hb k m w' g' n' t' hv (by omega) (by omega))]
def fromP (f : Fmt) (won g : Pr) (n t1 : Int) : Cs := fromF f (remV f won g).toNat won g n t1
theorem from_eq (hf : f.Ok) (hb : Bdd f) {won g : Pr} {n t1 : Int} (h : Vs f won g) : fromP f won g n t1 = orV (courV (fromP f) f won g n t1 0) (courV (fromP f) f won g n t1 1) := by
  have hp := rem_pos hf hb h
  obtain ⟨k, hk⟩ : ∃ k, (remV f won g).toNat = k + 1 := ⟨(remV f won g).toNat - 1, by omega⟩
  unfold fromP
  rw [hk, fromF]
  rw [cour_congr (r1 := fromF f k) (r2 := fun won g n t1 => fromF f (remV f won g).toNat won g n t1) hf hb (.inl rfl) h (fun w' g' n' t' hv hr _ => from_more hf hb _ _ w' g' n' t' hv (by omega) (by have := rem_pos hf hb hv; omega)), cour_congr (r1 := fromF f k) (r2 := fun won g n t1 => fromF f (remV f won g).toNat won g n t1) hf hb (.inr rfl) h (fun w' g' n' t' hv hr _ => from_more hf hb _ _ w' g' n' t' hv (by omega) (by have := rem_pos hf hb hv; omega))]
def CsB (c : Cs) (k : Int) : Prop := (0 ≤ c.1.1 ∧ c.1.1 ≤ c.1.2 ∧ c.1.2 ≤ k) ∧ 0 ≤ c.2.1 ∧ c.2.1 ≤ c.2.2 ∧ c.2.2 ≤ k
theorem csb_zero {k : Int} (h : 0 ≤ k) : CsB zC k := by unfold CsB zC; dsimp only; omega
theorem csb_bump {c : Cs} {k : Int} (h : CsB c k) (a b : Bool) : CsB (bumpC c a b) (k + 1) := by
  have h1 := bz_rng a
  have h2 := bz_rng b
  unfold CsB bumpC at *; dsimp only; omega
theorem csb_or {a b : Cs} {k : Int} (h1 : CsB a k) (h2 : CsB b k) : CsB (orV a b) k := by
  unfold CsB orV wideV at *; dsimp only; omega
theorem csb_cour {rec : Pr → Pr → Int → Int → Cs} {k : Int} (hk : 0 ≤ k) (h : ∀ w g n t, CsB (rec w g n t) k) (won g : Pr) (n t1 side : Int) : CsB (courV rec f won g n t1 side) (k + 1) := by
  unfold courV
  cases overS f won g side
  · exact csb_bump (h _ _ _ _) _ _
  · exact csb_zero (by omega)
theorem csb_from : ∀ (k : Nat) (won g : Pr) (n t1 : Int), CsB (fromF f k won g n t1) k
  | 0, _, _, _, _ => csb_zero (Int.le_refl _)
  | k + 1, won, g, n, t1 => csb_or (by have := csb_cour (f := f) (rec := fromF f k) (k := k) (by omega) (fun w g n t => csb_from k w g n t) won g n t1 0; exact this) (by have := csb_cour (f := f) (rec := fromF f k) (k := k) (by omega) (fun w g n t => csb_from k w g n t) won g n t1 1; exact this)
theorem rem_le (hf : f.Ok) {won g : Pr} (h : Vs f won g) : remV f won g ≤ 85 := by
  have hw := h.1
  have ho := h.2
  have h1 := hf.s1
  have h2 := hf.g1
  have h3 := hf.t
  have h4 := hf.lt
  have h5 := hf.g0
  unfold OpenP at ho
  unfold remV
  have hd : 2 * f.sets - 2 - won.1 - won.2 = 0 ∨ 2 * f.sets - 2 - won.1 - won.2 = 1 ∨ 2 * f.sets - 2 - won.1 - won.2 = 2 ∨ 2 * f.sets - 2 - won.1 - won.2 = 3 ∨ 2 * f.sets - 2 - won.1 - won.2 = 4 := by omega
  rcases hd with e | e | e | e | e <;> rw [e] <;> omega
theorem csb_P (hf : f.Ok) {won g : Pr} {n t1 : Int} (h : Vs f won g) : CsB (fromP f won g n t1) 85 := by
  have h1 := csb_from (f := f) (remV f won g).toNat won g n t1
  have h2 := rem_le hf h
  unfold fromP
  unfold CsB at h1 ⊢
  omega

end
end Go.Proofs.Ytacaojifempclaa
