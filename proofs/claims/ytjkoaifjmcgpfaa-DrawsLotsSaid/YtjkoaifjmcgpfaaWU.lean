/- Many rows that are read, one entry: more rules. Plain laws, no program is named here. -/
import Derived.Test.YtjkoaifjmcgpfaaWE
namespace Go.Proofs.Ytjkoaifjmcgpfaa
open Go Go.RowKit

/-- Many rows, and one of one's own, and further ones, are many rows. -/
theorem St.manyWeak {w0 w : World} {L : List Ent} {rs1 rs2 rs : List Row} {A : Option Addr} {cap : Nat} {T : TypeId} {size m : Nat} {es : List (List Value)} (h : St w0 w (manyE true rs1 :: .own A cap T size m es :: manyE true rs2 :: L)) (hr : ∀ r ∈ rs, r ∈ rs1 ∨ r = ⟨A, size, m, es⟩ ∨ r ∈ rs2) : St w0 w (manyE true rs :: L) := by
  have hp1 := List.pairwise_cons.1 h.sep
  have hp2 := List.pairwise_cons.1 hp1.2
  have hp3 := List.pairwise_cons.1 hp2.2
  have hfp : ∀ r ∈ rs, ∀ b, (Ent.ro r.A r.size r.n r.es).fp b → (manyE true rs1).fp b ∨ (Ent.own A cap T size m es).fp b ∨ (manyE true rs2).fp b := fun r hrs b hb => by
    rcases hr r hrs with h1 | rfl | h1
    · exact .inl ⟨r, h1, hb⟩
    · obtain ⟨ad, ha, hbl, _, _⟩ := hb
      exact .inr (.inl ⟨ad, ha, hbl⟩)
    · exact .inr (.inr ⟨r, h1, hb⟩)
  refine ⟨h.below, fun x hx => ?_, fun x hx hf b hb => ?_, List.pairwise_cons.2 ⟨fun x hx hor b hb hb' => ?_, hp3.2⟩⟩
  · rcases List.mem_cons.1 hx with rfl | hx
    · intro r hrs
      rcases hr r hrs with h1 | rfl | h1
      · exact h.ok (manyE true rs1) (by simp) r h1
      · exact (h.ok (.own A cap T size m es) (by simp)).2
      · exact h.ok (manyE true rs2) (by simp) r h1
    · exact h.ok x (by simp [hx])
  · rcases List.mem_cons.1 hx with rfl | hx
    · obtain ⟨r, hrs, hb⟩ := hb
      rcases hfp r hrs b hb with h1 | h1 | h1
      · exact h.new (manyE true rs1) (by simp) rfl b h1
      · exact h.new (.own A cap T size m es) (by simp) rfl b h1
      · exact h.new (manyE true rs2) (by simp) rfl b h1
    · exact h.new x (by simp [hx]) hf b hb
  · obtain ⟨r, hrs, hb⟩ := hb
    have hx' : x.excl = true := hor.resolve_left (fun h => by cases h)
    rcases hfp r hrs b hb with h1 | h1 | h1
    · exact hp1.1 x (by simp [hx]) (.inr hx') b h1 hb'
    · exact hp2.1 x (by simp [hx]) (.inr hx') b h1 hb'
    · exact hp3.1 x hx (.inr hx') b h1 hb'
section
variable {F : Fence} {P : Program} {Q : Exit → Act → World → Prop} {n : Nat} {D : List Deferred} {l : Env} {w0 : World} {L M M' M'' : List Ent}
theorem WC.manyWeak {c : Code} {rs1 rs2 : List Row} {A : Option Addr} {cap : Nat} {T : TypeId} {size m : Nat} {es : List (List Value)} (rs : List Row) (h1 : At L (manyE true rs1) M) (h2 : At M (.own A cap T size m es) M') (h3 : At M' (manyE true rs2) M'') (hr : ∀ r ∈ rs, r ∈ rs1 ∨ r = ⟨A, size, m, es⟩ ∨ r ∈ rs2)
    (h : WC F P c Q n D l w0 (manyE true rs :: M'') ) : WC F P c Q n D l w0 L := fun hF a w hfr hst => h hF a w hfr ((hst.sub (.cons h1 (.cons h2 (.cons h3 (SubL.refl _))))).manyWeak hr)
end
end Go.Proofs.Ytjkoaifjmcgpfaa
