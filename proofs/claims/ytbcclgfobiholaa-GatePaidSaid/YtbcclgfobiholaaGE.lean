/- Plain laws of refunds: what is paid once is not paid again; fewer minutes pay no less. -/
import Derived.Test.YtbcclgfobiholaaGD
import Derived.Test.YtbcclgfobiholaaWE
namespace Go.Proofs.Ytbcclgfobiholaa
open Go Go.RowKit

def rfAt (x : Tm) (t : Tkt) : Int := rfV x t ((x.pl[t.day.toNat]?).getD 0)
theorem rfsTo_map (x : Tm) (l : List Tkt) : ∀ k, k ≤ l.length → rfsTo x l k = (l.take k).map (rfAt x)
  | 0, _ => rfl
  | k + 1, hk => by
    have hx : l[k]? = some l[k] := List.getElem?_eq_getElem (by omega)
    rw [rfsTo, hx, List.take_add_one, hx, List.map_append, ← rfsTo_map x l k (by omega)]
    rfl
theorem rfsV_map (x : Tm) (l : List Tkt) : rfsV x l = l.map (rfAt x) := by rw [rfsV, rfsTo_map x l _ (Nat.le_refl _), List.take_length]
def pay (x : Tm) (t : Tkt) : Tkt := ⟨t.id, t.price, t.day, t.paid + rfAt x t⟩
theorem dupT_map {l : List Tkt} {f : Tkt → Tkt} (hf : ∀ t, (f t).id = t.id) (k : Nat) (id : Int) : dupT (l.map f) k id = dupT l k id := by
  unfold dupT
  rw [← List.map_take, List.any_map]
  congr 1
  funext t
  simp [hf]
theorem tks_map {x y : Tm} {l : List Tkt} {f : Tkt → Tkt} (hf : ∀ t, (f t).id = t.id) (hok : ∀ t ∈ l, tkOk x t = true → tkOk y (f t) = true) : ∀ k, tksOk x l k = true → tksOk y (l.map f) k = true
  | 0, _ => rfl
  | k + 1, h => by
    rw [tksOk, Bool.and_eq_true] at h
    rw [tksOk, tks_map hf hok k h.1, List.getElem?_map]
    cases hk : l[k]? with
    | none => rfl
    | some t =>
      have h2 := h.2
      rw [hk] at h2
      simp only [Bool.and_eq_true] at h2
      show (true && (!dupT (l.map f) k (f t).id && tkOk y (f t))) = true
      rw [dupT_map hf, hf, h2.1, hok t (List.mem_of_getElem? hk) h2.2]; rfl
theorem pay_ok {x : Tm} {l : List Tkt} (h : areT x l = true) : areT x (l.map (pay x)) = true := by
  have ht := t_ok h
  simp only [areT, Bool.and_eq_true] at h ⊢
  refine ⟨⟨by rw [List.length_map]; exact h.1.1, h.1.2⟩, ?_⟩
  rw [List.length_map]
  refine tks_map (f := pay x) (fun _ => rfl) (fun t hm ho => ?_) _ h.2
  have hr := rfV_rng ht hm ((x.pl[t.day.toNat]?).getD 0)
  have h4 := (ht.tk t hm).2.2.2
  simp only [tkOk, Bool.and_eq_true] at ho ⊢
  refine ⟨ho.1, win_iff.2 ?_⟩
  simp only [pay, rfAt]
  omega
theorem pay_zero (x : Tm) (t : Tkt) : rfAt x (pay x t) = 0 := by
  show rfV x (pay x t) ((x.pl[t.day.toNat]?).getD 0) = 0
  generalize hn : (x.pl[t.day.toNat]?).getD 0 = n
  rw [rfV_eq]
  have hr : refT x (pay x t) n = refT x t n := rfl
  rw [hr]
  simp only [pay, rfAt]
  rw [hn, rfV_eq]
  omega
theorem sum_zero {xs : List Int} (h : ∀ n ∈ xs, n = 0) : sumI xs = 0 := by
  induction xs with
  | nil => rfl
  | cons y ys ih =>
    rw [sumI, h y (by simp), ih fun n hn => h n (List.mem_cons_of_mem _ hn)]; rfl
theorem pay_tot {x : Tm} {l : List Tkt} (h : areT x l = true) : totV x (l.map (pay x)) = 0 := by
  rw [totV, pay_ok h, cond_true, rfsV_map]
  refine sum_zero fun n hn => ?_
  rw [List.map_map] at hn
  obtain ⟨t, _, rfl⟩ := List.mem_map.1 hn
  exact pay_zero x t
def fewT (x : Tm) (k : Nat) (m : Int) : Tm := ⟨x.short, x.long, x.pl.set k m⟩
theorem few_ok {x : Tm} {l : List Tkt} {k : Nat} {m : Int} (h : areT x l = true) (hm : 0 ≤ m ∧ m ≤ 1440) : areT (fewT x k m) l = true := by
  simp only [areT, Bool.and_eq_true] at h ⊢
  have hlen : (fewT x k m).pl.length = x.pl.length := by simp [fewT]
  refine ⟨⟨?_, ?_⟩, ?_⟩
  · have := h.1.1
    unfold tHead at this ⊢
    rw [hlen]
    exact this
  · refine List.all_eq_true.2 fun n hn => ?_
    rcases List.mem_or_eq_of_mem_set hn with hn | rfl
    · exact List.all_eq_true.1 h.1.2 n hn
    · exact win_iff.2 hm
  · have := tks_map (x := x) (y := fewT x k m) (l := l) (f := id) (fun _ => rfl) (fun t _ ho => by
      unfold tkOk at ho ⊢
      rw [hlen]
      exact ho) _ h.2
    rwa [List.map_id] at this
theorem ref_mono {x : Tm} {t : Tkt} {m n : Int} (hs : x.short ≤ x.long) (hp : 0 ≤ t.price) (h : m ≤ n) : refT x t n ≤ refT x t m := by
  unfold refT
  cases h1 : decide (n < x.short) <;> cases h2 : decide (n < x.long) <;> cases h3 : decide (m < x.short) <;> cases h4 : decide (m < x.long) <;> simp only [decide_eq_true_eq, decide_eq_false_iff_not, cond_true, cond_false] at * <;> omega
theorem few_ge {x : Tm} {l : List Tkt} {k : Nat} {m n : Int} (h : areT x l = true) (hk : x.pl[k]? = some n) (hm : m ≤ n) {t : Tkt} (ht : t ∈ l) : rfAt x t ≤ rfAt (fewT x k m) t := by
  have ho := t_ok h
  have hd := (ho.tk t ht).2.2.1
  have hp := (ho.tk t ht).2.1.1
  obtain ⟨d, hdn⟩ := rf_day ho ht
  show rfV x t ((x.pl[t.day.toNat]?).getD 0) ≤ rfV (fewT x k m) t (((x.pl.set k m)[t.day.toNat]?).getD 0)
  have hle : ((x.pl.set k m)[t.day.toNat]?).getD 0 ≤ (x.pl[t.day.toNat]?).getD 0 := by
    rw [List.getElem?_set]
    by_cases e : k = t.day.toNat
    · rw [if_pos e]
      subst e
      have hl := (List.getElem?_eq_some_iff.1 hk).1
      rw [if_pos hl, hk]
      exact hm
    · rw [if_neg e]; exact Int.le_refl _
  have := ref_mono (x := x) (t := t) ho.s.2.1 hp hle
  rw [rfV_eq, rfV_eq]
  have e : refT (fewT x k m) t (((x.pl.set k m)[t.day.toNat]?).getD 0) = refT x t (((x.pl.set k m)[t.day.toNat]?).getD 0) := rfl
  rw [e]
  omega
end Go.Proofs.Ytbcclgfobiholaa
