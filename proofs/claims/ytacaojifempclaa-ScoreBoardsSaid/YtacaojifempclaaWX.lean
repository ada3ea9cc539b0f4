/- Matrices: slices of rows of numbers, all of one's own, as one entry of the heap; no program is named here. -/
import Derived.Test.YtacaojifempclaaWJ
namespace Go.Proofs.Ytacaojifempclaa
open Go Go.RowKit

/-! ### a slot that is assigned anew: its old entry is dropped -/
inductive Cut (d : Nat) : Env → Env → Prop
  | nil : Cut d [] []
  | hit {v : Value} {l l' : Env} (h : Cut d l l') : Cut d ((d, v) :: l) l'
  | miss {i : Nat} {v : Value} {l l' : Env} (hn : Nat.beq i d = false) (h : Cut d l l') : Cut d ((i, v) :: l) ((i, v) :: l')
theorem Cut.out {d : Nat} {l l' : Env} (h : Cut d l l') : ∀ k, k ≠ d → look l' k = look l k := by
  induction h with
  | nil => exact fun _ _ => rfl
  | hit _ ih => exact fun k hk => by rw [look_cons, if_neg (fun e => hk e.symm), ih k hk]
  | miss _ _ ih => exact fun k hk => by rw [look_cons, look_cons, ih k hk]
theorem Cut.fr {a : Act} {n : Nat} {D : List Deferred} {d : Nat} {v : Value} {l l' : Env} (h : Cut d l l') (hf : Fr a n D ((d, v) :: l)) : Fr a n D ((d, v) :: l') := by
  refine ⟨hf.size, fun k u hk => hf.slot k u ?_, hf.defers⟩
  rw [look_cons] at hk ⊢
  by_cases e : d = k
  · rw [if_pos e] at hk ⊢; exact hk
  · rw [if_neg e] at hk ⊢
    rw [← h.out k (fun x => e x.symm)]; exact hk
theorem WL.cut {F : Fence} {P : Program} {ops : Array Oper} {Q : Exit → Act → World → Prop} {rest : List Oper} {n : Nat} {D : List Deferred} {l l' : Env} {w0 : World} {L : List Ent} {d : Nat} {v : Value} (hc : Cut d l l') (h : WL F P ops Q rest n D ((d, v) :: l') w0 L) : WL F P ops Q rest n D ((d, v) :: l) w0 L :=
  fun hF a w hfr hst => h hF a w (hc.fr hfr) hst

abbrev MR := Option Addr × Nat × List Int
def mI (l : List Int) : List (List Value) := l.map fun x => [.int .i64 x]
theorem mI_len (l : List Int) : (mI l).length = l.length := List.length_map _
theorem mI_at {l : List Int} {k : Nat} (h : k < l.length) : (mI l)[k]? = some [.int .i64 (l.getD k 0)] := by
  rw [mI, List.getElem?_map, List.getElem?_eq_getElem h, List.getD_eq_getElem?_getD, List.getElem?_eq_getElem h]; rfl
theorem mI_set (l : List Int) (k : Nat) (v : Int) : (mI l).set k [.int .i64 v] = mI (l.set k v) := by simp [mI, List.map_set]
def mxV (hs : List MR) : List (List Value) := hs.map fun h => [.slice h.1 h.2.2.length h.2.1]
theorem mxV_len (hs : List MR) : (mxV hs).length = hs.length := List.length_map _
theorem mxV_app (a b : List MR) : mxV (a ++ b) = mxV a ++ mxV b := List.map_append
abbrev ownR (T : TypeId) (h : MR) : Ent := .own h.1 h.2.1 T 1 h.2.2.length (mI h.2.2)
def apR (T : TypeId) (h h' : MR) : Prop := ∀ b, (ownR T h).fp b → (ownR T h').fp b → False
def mxE (T : TypeId) (hs : List MR) : Ent := .gen true true (fun b => ∃ h ∈ hs, (ownR T h).fp b) (fun w => (∀ h ∈ hs, (ownR T h).ok w) ∧ hs.Pairwise (apR T))
  (fun w w' hb hok => ⟨fun h hh => Ent.ok_frame (e := ownR T h) (hok.1 h hh) fun b hf => hb b ⟨h, hh, hf⟩, hok.2⟩) (fun w b hok ⟨h, hh, hf⟩ => Ent.ok_lt (e := ownR T h) (hok.1 h hh) hf)
theorem mx_rd {T : TypeId} {hs : List MR} {i : Nat} {h : MR} (hi : hs[i]? = some h) : ∀ w, (mxE T hs).ok w → Rd w h.1 1 h.2.2.length (mI h.2.2) := fun w hw => (hw.1 h (List.mem_of_getElem? hi)).2
section
variable {w0 w : World} {L : List Ent} {T : TypeId}
theorem St.mx0 (h : St w0 w L) : St w0 w (mxE T [] :: L) := by
  refine ⟨h.below, fun x hx => ?_, fun x hx hf b hb => ?_, List.pairwise_cons.2 ⟨fun x hx hor b hb hb' => ?_, h.sep⟩⟩
  · rcases List.mem_cons.1 hx with rfl | hx
    · exact ⟨fun r hr => (by cases hr), List.Pairwise.nil⟩
    · exact h.ok x hx
  · rcases List.mem_cons.1 hx with rfl | hx
    · obtain ⟨r, hr, _⟩ := hb; cases hr
    · exact h.new x hx hf b hb
  · obtain ⟨r, hr, _⟩ := hb; cases hr
/-- Rows that are those of one row and of some others, in any order. -/
theorem St.mxJoin {hs hs' : List MR} {r : MR} (hp : hs'.Perm (r :: hs)) (h : St w0 w (ownR T r :: mxE T hs :: L)) : St w0 w (mxE T hs' :: L) := by
  have h1 := List.pairwise_cons.1 h.sep
  have h2 := List.pairwise_cons.1 h1.2
  have hok := h.ok (mxE T hs) (by simp)
  have hr := h.ok (ownR T r) (by simp)
  have hmem : ∀ x, x ∈ hs' ↔ x = r ∨ x ∈ hs := fun x => by rw [hp.mem_iff, List.mem_cons]
  have hfp : ∀ b, (mxE T hs').fp b → (ownR T r).fp b ∨ (mxE T hs).fp b := fun b ⟨x, hx, hb⟩ => by
    rcases (hmem x).1 hx with rfl | hx
    · exact .inl hb
    · exact .inr ⟨x, hx, hb⟩
  have hsym : ∀ {x y : MR}, apR T x y → apR T y x := fun hxy b hb hb' => hxy b hb' hb
  refine ⟨h.below, fun x hx => ?_, fun x hx hf b hb => ?_, List.pairwise_cons.2 ⟨fun x hx hor b hb hb' => ?_, h2.2⟩⟩
  · rcases List.mem_cons.1 hx with rfl | hx
    · refine ⟨fun y hy => ?_, (hp.pairwise_iff hsym).2 (List.pairwise_cons.2 ⟨fun y hy b hb hb' => h1.1 (mxE T hs) (by simp) (.inl rfl) b hb ⟨y, hy, hb'⟩, hok.2⟩)⟩
      rcases (hmem y).1 hy with rfl | hy
      · exact hr
      · exact hok.1 y hy
    · exact h.ok x (by simp [hx])
  · rcases List.mem_cons.1 hx with rfl | hx
    · rcases hfp b hb with hb | hb
      · exact h.new (ownR T r) (by simp) rfl b hb
      · exact h.new (mxE T hs) (by simp) rfl b hb
    · exact h.new x (by simp [hx]) hf b hb
  · rcases hfp b hb with hb | hb
    · exact h1.1 x (by simp [hx]) (.inl rfl) b hb hb'
    · exact h2.1 x hx (.inl rfl) b hb hb'
theorem St.mxSplit {hs hs' : List MR} {r : MR} (hp : hs'.Perm (r :: hs)) (h : St w0 w (mxE T hs' :: L)) : St w0 w (ownR T r :: mxE T hs :: L) := by
  have h1 := List.pairwise_cons.1 h.sep
  have hok := h.ok (mxE T hs') (by simp)
  have hmem : ∀ x, x ∈ hs' ↔ x = r ∨ x ∈ hs := fun x => by rw [hp.mem_iff, List.mem_cons]
  have hsym : ∀ {x y : MR}, apR T x y → apR T y x := fun hxy b hb hb' => hxy b hb' hb
  have hpw := List.pairwise_cons.1 ((hp.pairwise_iff hsym).1 hok.2)
  have hr : ∀ b, (ownR T r).fp b → (mxE T hs').fp b := fun b hb => ⟨r, (hmem r).2 (.inl rfl), hb⟩
  have hm : ∀ b, (mxE T hs).fp b → (mxE T hs').fp b := fun b ⟨x, hx, hb⟩ => ⟨x, (hmem x).2 (.inr hx), hb⟩
  refine ⟨h.below, fun x hx => ?_, fun x hx hf b hb => ?_, List.pairwise_cons.2 ⟨fun x hx hor b hb hb' => ?_, List.pairwise_cons.2 ⟨fun x hx hor b hb hb' => ?_, h1.2⟩⟩⟩
  · rcases List.mem_cons.1 hx with rfl | hx
    · exact hok.1 r ((hmem r).2 (.inl rfl))
    · rcases List.mem_cons.1 hx with rfl | hx
      · exact ⟨fun y hy => hok.1 y ((hmem y).2 (.inr hy)), hpw.2⟩
      · exact h.ok x (by simp [hx])
  · rcases List.mem_cons.1 hx with rfl | hx
    · exact h.new (mxE T hs') (by simp) rfl b (hr b hb)
    · rcases List.mem_cons.1 hx with rfl | hx
      · exact h.new (mxE T hs') (by simp) rfl b (hm b hb)
      · exact h.new x (by simp [hx]) hf b hb
  · rcases List.mem_cons.1 hx with rfl | hx
    · obtain ⟨y, hy, hb'⟩ := hb'
      exact hpw.1 y hy b hb hb'
    · exact h1.1 x hx (.inl rfl) b (hr b hb) hb'
  · exact h1.1 x hx (.inl rfl) b (hm b hb) hb'
end
theorem perm_add (hs : List MR) (r : MR) : (hs ++ [r]).Perm (r :: hs) := List.perm_append_singleton r hs
theorem perm_at : ∀ {hs : List MR} {i : Nat} {r : MR}, hs[i]? = some r → hs.Perm (r :: hs.eraseIdx i)
  | [], i, r, h => by simp at h
  | x :: hs, 0, r, h => by
    obtain rfl : x = r := by simpa using h
    exact List.Perm.refl _
  | x :: hs, i + 1, r, h => ((perm_at (hs := hs) (i := i) (by simpa using h)).cons x).trans (List.Perm.swap r x _)
theorem perm_set {hs : List MR} {i : Nat} {r r' : MR} (h : hs[i]? = some r) : (hs.set i r').Perm (r' :: hs.eraseIdx i) := by
  have hi := (List.getElem?_eq_some_iff.1 h).1
  have h2 : (hs.set i r')[i]? = some r' := List.getElem?_set_self hi
  have := perm_at h2
  rwa [List.eraseIdx_set_eq] at this
section
variable {F : Fence} {P : Program} {ops : Array Oper} {Q : Exit → Act → World → Prop} {rest : List Oper} {n : Nat} {D : List Deferred} {l : Env} {w0 : World} {L M M' : List Ent} {T : TypeId}
theorem WC.mx0 {c : Code} (T : TypeId) (h : WC F P c Q n D l w0 (mxE T [] :: L)) : WC F P c Q n D l w0 L := fun hF a w hfr hst => h hF a w hfr hst.mx0
/-- A row of one's own joins the matrix. -/
theorem WC.mxAdd {c : Code} {hs : List MR} (A : Option Addr) (cap : Nat) (xs : List Int) {m : Nat} {es : List (List Value)} (ha : At L (.own A cap T 1 m es) M) (hb : At M (mxE T hs) M') (hm : m = xs.length) (he : es = mI xs) (h : WC F P c Q n D l w0 (mxE T (hs ++ [(A, cap, xs)]) :: M')) : WC F P c Q n D l w0 L := fun hF a w hfr hst => h hF a w hfr (by
  subst hm he
  exact (hst.sub (.cons ha (.cons hb (SubL.refl _)))).mxJoin (perm_add hs (A, cap, xs)))
theorem WL.mxAt {hs : List MR} {i : Nat} {r : MR} (hi : hs[i]? = some r) (ha : At L (mxE T hs) M) (h : WL F P ops Q rest n D l w0 (ownR T r :: mxE T (hs.eraseIdx i) :: M)) : WL F P ops Q rest n D l w0 L := fun hF a w hfr hst => h hF a w hfr ((hst.pull ha).mxSplit (perm_at hi))
theorem WL.mxPut {hs : List MR} {i : Nat} {r : MR} (A : Option Addr) (cap : Nat) (xs : List Int) {m : Nat} {es : List (List Value)} (hi : hs[i]? = some r) (ha : At L (.own A cap T 1 m es) M) (hb : At M (mxE T (hs.eraseIdx i)) M') (hm : m = xs.length) (he : es = mI xs) (h : WL F P ops Q rest n D l w0 (mxE T (hs.set i (A, cap, xs)) :: M')) : WL F P ops Q rest n D l w0 L := fun hF a w hfr hst => h hF a w hfr (by
  subst hm he
  exact (hst.sub (.cons ha (.cons hb (SubL.refl _)))).mxJoin (perm_set hi))
end
def zrow (K : Nat) : List Int := List.replicate K 0
theorem zrow_len (K : Nat) : (zrow K).length = K := List.length_replicate
theorem zrow_mi (K : Nat) : List.replicate K [Value.int .i64 0] = mI (zrow K) := by simp [mI, zrow]
theorem mxV_z (A : Option Addr) (c K : Nat) : mxV [(A, c, zrow K)] = [[.slice A K c]] := by simp [mxV, zrow_len]
/-! #### what stands in a matrix -/
def gv (hs : List MR) (a b : Nat) : Int := ((hs[a]?).getD (none, 0, [])).2.2.getD b 0
structure Mx (K : Nat) (hs : List MR) (V : List (List Value)) : Prop where
  v : mxV hs = V
  len : hs.length = K
  row : ∀ h ∈ hs, h.2.2.length = K
theorem Mx.at {K : Nat} {hs : List MR} {V : List (List Value)} (h : Mx K hs V) {a : Nat} (ha : a < K) : ∃ (A : Option Addr) (c : Nat) (xs : List Int), hs[a]? = some (A, c, xs) ∧ xs.length = K ∧ V[a]? = some [.slice A K c] ∧ (∀ b, gv hs a b = xs.getD b 0) ∧ ∀ (T : TypeId) (w : World), (mxE T hs).ok w → Rd w A 1 K (mI xs) := by
  obtain ⟨⟨A, c, xs⟩, hr⟩ : ∃ r, hs[a]? = some r := ⟨_, List.getElem?_eq_getElem (by rw [h.len]; exact ha)⟩
  have hl : xs.length = K := h.row _ (List.mem_of_getElem? hr)
  refine ⟨A, c, xs, hr, hl, ?_, fun b => by rw [gv, hr]; rfl, fun T w hw => by have := mx_rd hr w hw; rwa [hl] at this⟩
  rw [← h.v, mxV, List.getElem?_map, hr, Option.map_some, hl]
theorem Mx.set {K : Nat} {hs : List MR} {V : List (List Value)} (h : Mx K hs V) {a : Nat} {A : Option Addr} {c : Nat} {xs : List Int} (hr : hs[a]? = some (A, c, xs)) (b : Nat) (v : Int) : Mx K (hs.set a (A, c, xs.set b v)) V := by
  have hi := (List.getElem?_eq_some_iff.1 hr).1
  refine ⟨?_, by rw [List.length_set]; exact h.len, fun x hx => ?_⟩
  · rw [← h.v]
    unfold mxV
    rw [List.map_set]
    refine List.ext_getElem? fun i => ?_
    by_cases e : a = i
    · subst e
      rw [List.getElem?_set_self (by rw [List.length_map]; exact hi), List.getElem?_map, hr, Option.map_some, List.length_set]
    · rw [List.getElem?_set_ne e]
  · rcases List.mem_or_eq_of_mem_set hx with hx | rfl
    · exact h.row x hx
    · rw [List.length_set]; exact h.row _ (List.mem_of_getElem? hr)
theorem gv_set {hs : List MR} {a : Nat} {A : Option Addr} {c : Nat} {xs : List Int} (hr : hs[a]? = some (A, c, xs)) {b : Nat} (hb : b < xs.length) (v : Int) (i j : Nat) : gv (hs.set a (A, c, xs.set b v)) i j = if i = a ∧ j = b then v else gv hs i j := by
  have hi := (List.getElem?_eq_some_iff.1 hr).1
  unfold gv
  by_cases e : a = i
  · subst e
    rw [List.getElem?_set_self hi, hr]
    simp only [Option.getD_some, true_and, List.getD_eq_getElem?_getD]
    by_cases e2 : b = j
    · subst e2
      rw [if_pos rfl, List.getElem?_set_self hb]; rfl
    · rw [if_neg (fun h => e2 h.symm), List.getElem?_set_ne e2]
  · rw [List.getElem?_set_ne e, if_neg (fun h => e h.1.symm)]
end Go.Proofs.Ytacaojifempclaa
