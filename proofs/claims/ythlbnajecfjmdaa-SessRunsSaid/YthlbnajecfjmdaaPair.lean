/- Arrays of two, in slices. -/
import Derived.Test.YthlbnajecfjmdaaRuns
import Derived.OpenShut
namespace Go.Proofs.Ythlbnajecfjmdaa
set_option linter.unusedVariables false
set_option linter.unusedSimpArgs false
set_option linter.unnecessarySimpa false
set_option maxRecDepth 100000
open Go.RowKit
theorem Enc.opens_two {t e : TypeId} {α : Type} {E : Enc α} (ht : Try.prog.underlying t = some (.array 2 e)) (hc : Try.prog.cellsOf e = E.size) (hct : Try.prog.cellsOf t = E.size + E.size) (hE : Enc.Opens e E) : Enc.Opens t (.pair E (.pair E .unit)) := by
  intro H enc w fuel cs x h
  obtain ⟨xs, m, _, _, hl, hlen, hf⟩ := DataW.trod_array ht h
  have h0 := hf 0 (by omega)
  have h1 := hf 1 (by omega)
  rw [List.getElem?_eq_getElem (by omega), hc] at h0 h1
  obtain ⟨a, ha⟩ := hE H enc w _ _ _ h0
  obtain ⟨b, hb⟩ := hE H enc w _ _ _ h1
  rw [hct] at hl
  refine ⟨(a, b, ()), cs.take E.size, cs.drop E.size, (List.take_append_drop _ _).symm, ?_, (cs.drop E.size).take E.size, (cs.drop E.size).drop E.size, (List.take_append_drop _ _).symm, ?_, ?_⟩
  · simpa using ha
  · simpa using hb
  · exact List.drop_eq_nil_of_le (by simp; omega)
abbrev twE : Enc (Int × Int × Unit) := .pair .u8 (.pair .u8 .unit)
theorem twE_opens : Enc.Opens 43 twE := Enc.opens_two Try.underlying43 (by kernel_rfl) (by kernel_rfl) (Enc.opens_int Try.underlying5 Enc.wf_u8)
theorem tw_at {w : World} {X : Avoid} {A : Option Addr} {n c k : Nat} {l : List (Int × Int × Unit)} (h : Enc.Sl twE w X (.slice A n c) l) (hk : k < l.length) : ∃ (ad : Addr) (a b : Int), A = some ad ∧ ad.block < w.heap.size ∧ w.cell? (ad.add (k * 2)) = some (.int .u8 a) ∧
    w.cell? ⟨(ad.add (k * 2)).block, (ad.add (k * 2)).off + 1, none⟩ = some (.int .u8 b) ∧ 0 ≤ a ∧ a ≤ 255 ∧ 0 ≤ b ∧ b ≤ 255 := by
  obtain ⟨ad, cs, rfl, hrep, hb, hcell⟩ := h.at_ hk
  obtain ⟨c1, c2, rfl, ⟨rfl, h1⟩, c3, c4, rfl, ⟨rfl, h2⟩, rfl⟩ := hrep
  exact ⟨ad, _, _, rfl, hb, Enc.cell0 hcell rfl, Enc.cellS hcell 0 rfl, h1.1, h1.2, h2.1, h2.2⟩
end Go.Proofs.Ythlbnajecfjmdaa
